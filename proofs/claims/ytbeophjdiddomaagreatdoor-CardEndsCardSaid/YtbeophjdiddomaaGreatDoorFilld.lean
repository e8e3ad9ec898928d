/- Plan: the whole. -/
import Derived.Test.YtbeophjdiddomaaGreatDoorPlan
import Derived.Test.YtbeophjdiddomaaGreatDoorWeigh
import Derived.WalkSpells
import Derived.Deep.RegionHeld3
import Derived.Laws.BitsLemmas
namespace Go.Proofs.YtbeophjdiddomaaGreatDoor
open Go.RowKit

theorem planEn.form {c : Roads} {M : Nat → Prop} {A : World} {x : List (List Int)} {v : Value} (h : planEn c M A x v) : ∃ pa n k d, v = .agg #[.slice pa n k, .int .i64 d] := by
  obtain ⟨nv, rfl, hn⟩ := h
  obtain ⟨a, k, rfl, _⟩ := hn.rows.open
  exact ⟨_, _, _, _, rfl⟩
theorem planEn.touch {c : Roads} {M N : Nat → Prop} {A B : World} {x : List (List Int)} {v : Value} (h : planEn c M A x v) (k : Touch N A B) (hm : ∀ i, N i → M i) : planEn c M B x v := by
  obtain ⟨nv, rfl, hn⟩ := h; exact ⟨nv, rfl, hn.touch (k.mono hm)⟩
theorem planEn.quiet {c : Roads} {M : Nat → Prop} {n : Nat} {A B : World} {x : List (List Int)} {v : Value} (h : planEn c M A x v) (k : Quiet n A B) : planEn c M B x v := by
  obtain ⟨nv, rfl, hn⟩ := h; exact ⟨nv, rfl, hn.quiet k⟩
theorem enters_plan1 : ∀ args w, (callFunc 69 args).run Tryz.prog w = .ok (.enter 69 args) w := enters_of Tryz.func69 (by kernel_rfl) rfl

/-- The plan that is best. -/
def bestPlan (c : Roads) : Option (List (List Int)) := firstBest (betterB c) (plansOf c)
def PlanPost (c : Roads) (w : World) (e : Ending) (w' : World) : Prop :=
  ∃ pa n k d, e = .returned (.agg #[.slice pa n k, .int .i64 d]) ∧ Ext w w' ∧ match bestPlan c with | none => pa = none ∧ n = 0 ∧ k = 0 ∧ d = 0 | some x => d = planLen c x ∧ RowsOff (· < w.heap.size) w' (.slice pa n k) x

theorem RowsOff.less {M N : Nat → Prop} {w : World} {v : Value} {xss : List (List Int)} (h : RowsOff M w v xss) (hm : ∀ i, N i → M i) : RowsOff N w v xss := by
  obtain ⟨vs, h1, h2, h3, h4⟩ := h
  exact ⟨vs, h1, h2, fun a n c ha hn => h3 a n c ha (hm _ hn), fun i x xs hx hxs => (h4 i x xs hx hxs).less hm⟩

theorem best_plans (c : Roads) (w : World) (lv fv : Value) (cb : Nat) (hB : RoadsB c) (hR : RoadsAt w (.agg #[lv, .int .i64 c.bears, fv]) c)
    (c0 : w.cell? ⟨cb, 0, none⟩ = some lv) (c1 : w.cell? ⟨cb, 1, none⟩ = some (.int .i64 c.bears)) (c2 : w.cell? ⟨cb, 2, none⟩ = some fv) :
    Calls Tryz.prog 67 #[.func (.func 101) #[] #[.pointer (some ⟨cb, 0, none⟩)], .func (.func 69) #[] #[]] w (PlanPost c w) := by
  refine (best_plan (betterB c) (planEn c (· < w.heap.size + 6)) (plansOf c) w _ _ _ _ enters_plans1 enters_plan1 (fun A x v h => h.form) (fun A B x v h k => h.touch k (fun i hi => by omega)) (fun n A B x v h k => h.quiet k)
    (fun W hx hz => by
      have hi := (plans_iter c w W cb lv fv (fun i => w.heap.size ≤ i ∧ i < w.heap.size + 6) hB hR (fun i hi => by omega) (fun h => by have : cb < w.heap.size := lt_of_cell c0; omega) hx (hx.cell c0) (hx.cell c1) (hx.cell c2)).less (N := fun i => (i = w.heap.size + 2 ∨ i = w.heap.size + 3) ∨ i = w.heap.size + 5) (fun i hi => by omega)
      rw [hz] at hi
      exact hi)
    ?_).mono ?_
  · rintro A x y vx vy hx ⟨nx, rfl, hnx⟩ ⟨ny, rfl, hny⟩
    exact plan1_any c nx ny x y A hnx.rows hny.rows
  · rintro e w' ⟨nv, dv, rfl, hx, h⟩
    cases hbb : firstBest (betterB c) (plansOf c) with
    | none => rw [hbb] at h; obtain ⟨rfl, rfl⟩ := h; exact ⟨_, _, _, _, rfl, hx, by unfold bestPlan; rw [hbb]; exact ⟨rfl, rfl, rfl, rfl⟩⟩
    | some x =>
      rw [hbb] at h
      obtain ⟨pa, n, k, d, hv⟩ := h.form
      cases hv
      obtain ⟨nv', h1, h2⟩ := h
      cases h1
      exact ⟨_, _, _, _, rfl, hx, by unfold bestPlan; rw [hbb]; exact ⟨rfl, h2.less (fun i hi => by omega)⟩⟩

/-- What Plan answers. -/
def PlanRes (c : Roads) (w : World) (e : Ending) (w' : World) : Prop :=
  ∃ nv d err, e = .returned (.tuple #[nv, .int .i64 d, .int .i64 err]) ∧ Ext w w' ∧
    if isRoadsB c = false then nv = .slice none 0 0 ∧ d = 0 ∧ err = 2
    else if c.bears < maxL c.loads then nv = .slice none 0 0 ∧ d = 0 ∧ err = 5
    else err = 0 ∧ match bestPlan c with | none => nv = .slice none 0 0 ∧ d = 0 | some x => d = planLen c x ∧ RowsAt w' nv x

set_option maxRecDepth 100000 in
set_option maxHeartbeats 4000000 in
theorem plan_any (v : Value) (c : Roads) (w : World) (hR : RoadsAt w v c) : Calls Tryz.prog 33 #[v] w (PlanRes c w) := by
  have HR := Lib.hid (fun w1 (hx : Ext w w1) => isRoads_any v c w1 (hR.ext hx))
  have hR0 := hR
  obtain ⟨lv, fv, rfl, hlv, hfv⟩ := hR0
  have HMX := Lib.hid (fun (hn : c.loads ≠ []) w1 (hx : Ext w w1) => (max_any lv c.loads w1 (hlv.ext hx) hn).mono (R' := fun e w' => e = .returned (.int .i64 (maxL c.loads)) ∧ w' = w1) (fun e w' h => ⟨h.1, h.2.symm⟩))
  have HB := Lib.hid (fun hB w1 (hx : Ext w w1) cb => best_plans c w1 lv fv cb hB (hR.ext hx))
  obtain ⟨la, lk, rfl, _⟩ := hlv.open
  obtain ⟨fa, fk, rfl, _⟩ := hfv.open
  have HPL := Lib.hid (fun w1 => plans_any (.slice la c.loads.length lk) (.slice fa c.far.length fk) c w1 ⟨_, _, _, rfl⟩ ⟨_, _, _, rfl⟩)
  clear hlv hfv hR
  have hmix : Tryz.prog.follows .mixedOrders = true := by kernel_rfl
  by_cases hr : isRoadsB c = true
  · have hrb := roadsB_of hr
    have hne : c.loads ≠ [] := fun e => by have := hrb.n1; rw [e] at this; simp at this
    by_cases hb : c.bears < maxL c.loads
    · have hfin : ∀ w1, Ext w w1 → PlanRes c w (.returned (.tuple #[.slice none 0 0, .int .i64 0, .int .i64 5])) w1 := fun w1 hx => ⟨_, _, _, rfl, hx, by rw [if_neg (by rw [hr]; simp), if_pos hb]; exact ⟨rfl, rfl, rfl⟩⟩
      have HF := Lib.hid hfin
      have hd : decide (c.bears < maxL c.loads) = true := by simpa using hb
      clear hfin
      go_enter Tryz.func33, Tryz.ntmps33
      go_wp2_with (go_at_call 61; refine (HR.out _ ((Ext.refl w).alloc _)).mono ?_; rintro e w1 ⟨rfl, hx1⟩; have q0 := hx1.cell (a := ⟨w.heap.size, 0, none⟩) (v := .slice la c.loads.length lk) (by go_simp); have q1 := hx1.cell (a := ⟨w.heap.size, 1, none⟩) (v := .int .i64 c.bears) (by go_simp))
      have hxw := ((Ext.refl w).alloc (.cells #[.slice la c.loads.length lk, .int .i64 c.bears, .slice fa c.far.length fk] 69)).trans hx1
      go_quiet ((go_at_call 66; exact Calls.quiet_of_same (HMX.out hne _ (hxw.drewN _))))
      go_wp2
      go_ret3
      exact HF.out _ (hxw.drewN _)
    · have hd : decide (c.bears < maxL c.loads) = false := by simpa using hb
      go_enter Tryz.func33, Tryz.ntmps33
      go_wp2_with (go_at_call 61; refine (HR.out _ ((Ext.refl w).alloc _)).mono ?_; rintro e w1 ⟨rfl, hx1⟩; have q0 := hx1.cell (a := ⟨w.heap.size, 0, none⟩) (v := .slice la c.loads.length lk) (by go_simp); have q1 := hx1.cell (a := ⟨w.heap.size, 1, none⟩) (v := .int .i64 c.bears) (by go_simp); have q2 := hx1.cell (a := ⟨w.heap.size, 2, none⟩) (v := .slice fa c.far.length fk) (by go_simp))
      have hxw := ((Ext.refl w).alloc (.cells #[.slice la c.loads.length lk, .int .i64 c.bears, .slice fa c.far.length fk] 69)).trans hx1
      go_quiet ((go_at_call 66; exact Calls.quiet_of_same (HMX.out hne _ (hxw.drewN _))))
      go_wp2_with (first | (go_at_call 68; refine (HPL.out _).mono ?_; rintro e w2 ⟨cb, rfl, hx2, _, d0, d1, d2⟩) | (go_at_call 67; refine (HB.out hrb w2 ((hxw.drewN _).trans hx2) cb d0 d1 d2).mono ?_; rintro e w3 ⟨pa, n, k, d, rfl, hx3, hv⟩; have HV := Lib.hid hv; clear hv))
      go_quiet (fail)
      go_wp2
      go_ret3
      have hx4 := ((((hxw.drewN _).trans hx2).trans hx3).alloc (.cells #[.slice pa n k, .int .i64 d] 112)).drewN nq
      refine ⟨.slice pa n k, d, 0, rfl, hx4, ?_⟩
      rw [if_neg (by rw [hr]; simp), if_neg (by omega)]
      refine ⟨rfl, ?_⟩
      have hv := HV.out
      cases hbp : bestPlan c with
      | none => rw [hbp] at hv; obtain ⟨rfl, rfl, rfl, rfl⟩ := hv; exact ⟨rfl, rfl⟩
      | some x => rw [hbp] at hv; exact ⟨hv.1, hv.2.rows.ext (((Ext.refl _).alloc _).drewN _)⟩
  · have hr' : isRoadsB c = false := by simpa using hr
    have hfin : ∀ w1, Ext w w1 → PlanRes c w (.returned (.tuple #[.slice none 0 0, .int .i64 0, .int .i64 2])) w1 := fun w1 hx => ⟨_, _, _, rfl, hx, by rw [if_pos hr']; exact ⟨rfl, rfl, rfl⟩⟩
    have HF := Lib.hid hfin
    clear hfin
    go_enter Tryz.func33, Tryz.ntmps33
    go_wp2_with (go_at_call 61; refine (HR.out _ ((Ext.refl w).alloc _)).mono ?_; rintro e w1 ⟨rfl, hx1⟩)
    go_ret3
    exact HF.out _ (((Ext.refl w).alloc _).trans hx1)
end Go.Proofs.YtbeophjdiddomaaGreatDoor

/- Fillings: what Fill computes, and the contracts of its small functions. -/
namespace Go.Proofs.YtbeophjdiddomaaGreatDoor
open Go.RowKit

/-! ### In plain Lean -/
structure Kind where
  holds : Int
  many : Int
def Kind.cells (k : Kind) : List Value := [.int .i64 k.holds, .int .i64 k.many]
def badKind (k : Kind) : Bool := !inB k.holds 1 36 || !inB k.many 0 20
def isKindsB (ks : List Kind) : Bool := inB ks.length 1 4 && !ks.any badKind
/-- How many numbers of cards of a kind are tried. -/
def cntOf (k : Kind) (left : Int) : Nat := (min k.many (left / k.holds) + 1).toNat
/-- A filling that was found, and how many cards it takes. -/
abbrev Found : Type := Option (List Int × Int)
def fewerB (cards : Int) : Found → Bool
  | none => true
  | some p => decide (cards < p.2)
def fillGo : List Kind → List Int → Int → Int → Found → Found
  | [], now, left, cards, acc => if left = 0 ∧ fewerB cards acc = true then some (now, cards) else acc
  | k :: ks, now, left, cards, acc => (List.range (cntOf k left)).foldl (fun (acc : Found) (n : Nat) => fillGo ks (now ++ [(n : Int)]) (left - n * k.holds) (cards + n) acc) acc
def fillOf (ks : List Kind) (buttons : Int) : Found := fillGo ks [] buttons 0 none

/-! ### Kinds in memory -/
def KindsAt (w : World) (v : Value) (ks : List Kind) : Prop := RowAt w v ks.length (ks.flatMap Kind.cells)
theorem KindsAt.ext {w w' : World} {v : Value} {ks : List Kind} (h : KindsAt w v ks) (k : Ext w w') : KindsAt w' v ks := RowAt.ext h k
theorem KindsAt.open {w : World} {v : Value} {hs : List Kind} (h : KindsAt w v hs) : ∃ a c, v = .slice a hs.length c ∧ hs.length ≤ c ∧ c ≤ 9223372036854775807 ∧ ∀ i, i < hs.length → ∃ b o x, a = some ⟨b, o, none⟩ ∧ Hid (hs[i]? = some x) ∧
    w.cell? ⟨b, o + i * 2, none⟩ = some (.int .i64 x.holds) ∧ w.cell? ⟨b, o + i * 2 + 1, none⟩ = some (.int .i64 x.many) := by
  obtain ⟨a, c, hv, h1, h2, _, h3⟩ := h
  refine ⟨a, c, hv, h1, h2, fun i hi => ?_⟩
  have hx : hs[i]? = some hs[i] := by simp [hi]
  have key : ∀ j, j < 2 → ∀ u, (hs[i]).cells[j]? = some u → ∃ b o, a = some ⟨b, o, none⟩ ∧ w.cell? ⟨b, o + (i * 2 + j), none⟩ = some u := fun j hj u hu =>
    h3 (i * 2 + j) u (by rw [flatMap_at Kind.cells 2 (fun _ => rfl) hs i j _ hx hj]; exact hu)
  obtain ⟨b, o, rfl, c0⟩ := key 0 (by omega) _ rfl
  have c' : ∀ j, j < 2 → ∀ u, (hs[i]).cells[j]? = some u → w.cell? ⟨b, o + (i * 2 + j), none⟩ = some u := fun j hj u hu => by
    obtain ⟨b', o', e, hc⟩ := key j hj u hu
    cases e; exact hc
  exact ⟨b, o, hs[i], rfl, hx, c0, c' 1 (by omega) _ rfl⟩

theorem fill1_any (k : Kind) (w : World) :
    Calls Tryz.prog 76 #[.agg k.cells.toArray] w fun e w' => e = .returned (.bool (badKind k)) ∧ Ext w w' := by
  unfold Kind.cells
  go_enter Tryz.func76, Tryz.ntmps76
  go_wp2_with (go_at_call 45; refine (in_any _ _ _ _).mono ?_; rintro e w' ⟨rfl, rfl⟩)
  all_goals go_ret
  all_goals refine ⟨?_, (Ext.refl _).alloc _⟩
  all_goals simp [badKind, *]

set_option maxHeartbeats 400000 in
theorem indexFuncK (v : Value) (hs : List Kind) (w : World) (hv : KindsAt w v hs) :
    Calls Tryz.prog 106 #[v, .func (.func 76) #[] #[]] w (IdxPost w (hs.any badKind)) := by
  obtain ⟨a, c, rfl, h1, h2, h3⟩ := hv.open
  go_enter Tryz.func106, Tryz.ntmps106
  go_wp2
  go_loopw [8] (fun i wr => ∃ k : Nat, k ≤ hs.length ∧ i = .int .i64 k ∧ Hid ((hs.take k).any badKind = false) ∧ Ext w wr) (fun i _ => hs.length - (intOf i).toNat)
  case atStart => exact ⟨0, Nat.zero_le _, rfl, by simp [Hid], Ext.refl _⟩
  case round =>
    obtain ⟨k, hk, rfl, hno, hx⟩ := hrel
    by_cases hlt : k < hs.length
    · obtain ⟨b, o, x, rfl, hxk, c0, c1⟩ := h3 k hlt
      have d0 := hx.cell c0
      have d1 := hx.cell c1
      clear c0 c1 h3
      go_wp2_with (go_at_call 76; refine Calls.mono (fill1_any x _) ?_; rintro e w' ⟨rfl, hx'⟩)
      · go_ret
        exact ⟨⟨_, rfl, by rw [any_of_at badKind hxk.out (by assumption)]; simp⟩, hx.trans hx'⟩
      · go_roundw
        case rel => exact ⟨k + 1, by omega, by go_num, by unfold Hid; rw [any_take_succ badKind hxk.out, hno.out]; simpa using ‹badKind x = false›, hx.trans hx'⟩
        case measure => simp [intOf]; omega
    · go_wp2
      go_ret
      exact ⟨⟨_, rfl, by have := hno.out; rw [List.take_of_length_le (by omega)] at this; rw [this]; simp⟩, hx⟩

theorem containsFuncK (v : Value) (hs : List Kind) (w : World) (hv : KindsAt w v hs) :
    Calls Tryz.prog 75 #[v, .func (.func 76) #[] #[]] w fun e w' => e = .returned (.bool (hs.any badKind)) ∧ Ext w w' := by
  go_enter Tryz.func75, Tryz.ntmps75
  go_wp2_with (go_at_call 106; refine (indexFuncK v hs _ hv).mono ?_; rintro e w' ⟨⟨n, rfl, hn⟩, hx⟩)
  go_ret
  exact ⟨by simp, hx⟩

/-! ### The search -/
/-- What the variables out and least hold. -/
def FillAt (ob lb : Nat) (W : World) : Found → Prop
  | none => W.cell? ⟨ob, 0, none⟩ = some (.slice none 0 0) ∧ W.cell? ⟨lb, 0, none⟩ = some (.int .i64 0)
  | some (x, n) => ∃ a c, W.cell? ⟨ob, 0, none⟩ = some (.slice (some a) x.length c) ∧ W.cell? ⟨lb, 0, none⟩ = some (.int .i64 n) ∧ IntsOff (fun i => i = ob ∨ i = lb) W (.slice (some a) x.length c) x
structure FillEnv (ks : List Kind) (w0 : World) (kb ob lb sb : Nat) (kv : Value) (A : World) : Prop where
  ext : Ext w0 A
  k : A.cell? ⟨kb, 0, none⟩ = some kv
  s : A.cell? ⟨sb, 0, none⟩ = some (.func (.func 77) #[] #[.pointer (some ⟨kb, 0, none⟩), .pointer (some ⟨ob, 0, none⟩), .pointer (some ⟨lb, 0, none⟩), .pointer (some ⟨sb, 0, none⟩)])
  f0 : A.frozen? ⟨ob, 0, none⟩ = false
  f1 : A.frozen? ⟨lb, 0, none⟩ = false
def FillPost (ob lb : Nat) (A : World) (r : Found) (e : Ending) (w' : World) : Prop :=
  e = .returned (.tuple #[]) ∧ Touch (fun i => i = ob ∨ i = lb) A w' ∧ FillAt ob lb w' r
theorem FillAt.cells {ob lb : Nat} {W : World} {r : Found} (h : FillAt ob lb W r) : ∃ v n, W.cell? ⟨ob, 0, none⟩ = some v ∧ W.cell? ⟨lb, 0, none⟩ = some (.int .i64 n) := by
  cases r with
  | none => exact ⟨_, _, h.1, h.2⟩
  | some p => obtain ⟨x, n⟩ := p; obtain ⟨a, c, h1, h2, _⟩ := h; exact ⟨_, _, h1, h2⟩
theorem FillAt.ext {ob lb : Nat} {W W' : World} {r : Found} (h : FillAt ob lb W r) (k : Ext W W') : FillAt ob lb W' r := by
  cases r with
  | none => exact ⟨k.cell h.1, k.cell h.2⟩
  | some p => obtain ⟨x, n⟩ := p; obtain ⟨a, c, h1, h2, h3⟩ := h; exact ⟨a, c, k.cell h1, k.cell h2, h3.touch (Touch.of_ext k)⟩
end Go.Proofs.YtbeophjdiddomaaGreatDoor

/- Fillings: the search. -/
namespace Go.Proofs.YtbeophjdiddomaaGreatDoor
open Go.RowKit

theorem FillEnv.touch {ks : List Kind} {w0 : World} {kb ob lb sb : Nat} {kv : Value} {A B : World} (h : FillEnv ks w0 kb ob lb sb kv A) 
    (k : Touch (fun i => i = ob ∨ i = lb) A B) (m0 : w0.heap.size ≤ ob) (m1 : w0.heap.size ≤ lb) (n1 : kb ≠ ob) (n2 : kb ≠ lb) (n3 : sb ≠ ob) (n4 : sb ≠ lb) (fz : B.frozen? ⟨ob, 0, none⟩ = false ∧ B.frozen? ⟨lb, 0, none⟩ = false) : FillEnv ks w0 kb ob lb sb kv B :=
  ⟨Touch.ext h.ext k (fun i hi => by omega), k.cell h.k (by simp; omega), k.cell h.s (by simp; omega), fz.1, fz.2⟩

theorem fill_set {ob lb b o c' : Nat} {now : List Int} {cards : Int} {A : World} {acc : Found} (hA : FillAt ob lb A acc) (hN : IntsOff (fun i => i = ob ∨ i = lb) A (.slice (some ⟨b, o, none⟩) now.length c') now) (hob : ob ≠ lb)
    (f0 : A.frozen? ⟨ob, 0, none⟩ = false) (f1 : A.frozen? ⟨lb, 0, none⟩ = false) :
    FillPost ob lb A (some (now, cards)) (.returned (.tuple #[])) ((A.setCell ⟨ob, 0, none⟩ (.slice (some ⟨b, o, none⟩) now.length c')).setCell ⟨lb, 0, none⟩ (.int .i64 cards)) ∧
    ((A.setCell ⟨ob, 0, none⟩ (.slice (some ⟨b, o, none⟩) now.length c')).setCell ⟨lb, 0, none⟩ (.int .i64 cards)).frozen? ⟨ob, 0, none⟩ = false ∧
    ((A.setCell ⟨ob, 0, none⟩ (.slice (some ⟨b, o, none⟩) now.length c')).setCell ⟨lb, 0, none⟩ (.int .i64 cards)).frozen? ⟨lb, 0, none⟩ = false := by
  obtain ⟨v, n, q0, q1⟩ := hA.cells
  have hT : Touch (fun i => i = ob ∨ i = lb) A ((A.setCell ⟨ob, 0, none⟩ (.slice (some ⟨b, o, none⟩) now.length c')).setCell ⟨lb, 0, none⟩ (.int .i64 cards)) := ((Touch.refl _ A).trans (Touch.setCell _ (.inl rfl))).trans (Touch.setCell _ (.inr rfl))
  have hne : ¬ ob = lb := hob
  exact ⟨⟨rfl, hT, _, _, by go_simp, by go_simp, hN.touch hT⟩, by go_simp, by go_simp⟩

set_option maxRecDepth 100000 in
set_option maxHeartbeats 2000000 in
theorem fill_leaf (ks : List Kind) (w0 : World) (kb ob lb sb : Nat) (kv nowv : Value) (now : List Int) (left cards : Int) (A : World) (acc : Found)
    (hk : KindsAt w0 kv ks) (hE : FillEnv ks w0 kb ob lb sb kv A) (hA : FillAt ob lb A acc) (hN : IntsOff (fun i => i = ob ∨ i = lb) A nowv now) (hl : now.length = ks.length) (hpos : 1 ≤ ks.length) (hob : ob ≠ lb) :
    Calls Tryz.prog 77 #[nowv, .int .i64 left, .int .i64 cards, .pointer (some ⟨kb, 0, none⟩), .pointer (some ⟨ob, 0, none⟩), .pointer (some ⟨lb, 0, none⟩), .pointer (some ⟨sb, 0, none⟩)] A fun e w' =>
      FillPost ob lb A (fillGo [] now left cards acc) e w' ∧ w'.frozen? ⟨ob, 0, none⟩ = false ∧ w'.frozen? ⟨lb, 0, none⟩ = false := by
  obtain ⟨a, c, rfl, _⟩ := hk.open
  obtain ⟨a', c', rfl, h1, h2, h3⟩ := hN.1.open
  have e0 := hE.k
  have e1 := hE.f0
  have e2 := hE.f1
  have t1 : ((now.length : Int) == (ks.length : Int)) = true := by rw [beq_iff_eq]; omega
  have t2 : (now.length == ks.length) = true := by rw [beq_iff_eq]; omega
  obtain ⟨b, o, z, rfl, _, hz⟩ := h3 0 (by omega)
  have hbl := lt_of_cell hz
  clear h3 hz
  have hun : FillPost ob lb A acc (.returned (.tuple #[])) A := ⟨rfl, Touch.refl _ _, hA⟩
  have hset := fill_set (cards := cards) hA hN hob e1 e2
  have hnl := fun (w : World) (a : Option Addr) (n c : Nat) => Lib.run_eql_slice_nil (P := Tryz.prog) w 33 3 a n c 0 0 Tryz.underlying33
  have hne : ¬ ob = lb := hob
  clear hl
  by_cases h0 : left = 0
  · subst h0
    cases acc with
    | none =>
      rw [show fillGo [] now 0 cards none = some (now, cards) by simp [fillGo, fewerB]]
      obtain ⟨q0, q1⟩ := hA
      have HS := Lib.hid hset
      clear hset hun hE hN hk
      go_enter Tryz.func77, Tryz.ntmps77
      go_wp2
      refine bodyPost_ret (results_none rfl _ _ _) rfl ?_
      exact HS.out
    | some p =>
      obtain ⟨x, n⟩ := p
      obtain ⟨a1, c1, q0, q1, q2⟩ := hA
      by_cases hc : cards < n
      · rw [show fillGo [] now 0 cards (some (x, n)) = some (now, cards) by simp [fillGo, fewerB, hc]]
        have hd : decide (cards < n) = true := by simpa using hc
        have HS := Lib.hid hset
        clear hset hun hE hN hk q2
        go_enter Tryz.func77, Tryz.ntmps77
        go_wp2
        refine bodyPost_ret (results_none rfl _ _ _) rfl ?_
        exact HS.out
      · rw [show fillGo [] now 0 cards (some (x, n)) = some (x, n) by simp [fillGo, fewerB, hc]]
        have hd : decide (cards < n) = false := by simpa using hc
        have HS := Lib.hid (And.intro hun (And.intro e1 e2))
        clear hset hun hE hN hk q2
        go_enter Tryz.func77, Tryz.ntmps77
        go_wp2
        refine bodyPost_ret (results_none rfl _ _ _) rfl ?_
        exact HS.out
  · rw [show fillGo [] now left cards acc = acc by simp [fillGo, h0]]
    have hd : (left == 0) = false := by simpa using h0
    have HS := Lib.hid (And.intro hun (And.intro e1 e2))
    clear hset hun hE hN hk hA
    go_enter Tryz.func77, Tryz.ntmps77
    go_wp2
    refine bodyPost_ret (results_none rfl _ _ _) rfl ?_
    exact HS.out
end Go.Proofs.YtbeophjdiddomaaGreatDoor

/- Fillings: a node of the search. -/
namespace Go.Proofs.YtbeophjdiddomaaGreatDoor
open Go.RowKit

theorem cntOf_lt {k : Kind} {left : Int} {j : Nat} (h1 : 1 ≤ k.holds) (h2 : 0 ≤ k.many) (h3 : 0 ≤ left) : j < cntOf k left ↔ (j : Int) ≤ k.many ∧ (j : Int) * k.holds ≤ left := by
  have hd : 0 ≤ left / k.holds := Int.ediv_nonneg h3 (by omega)
  rw [← Int.le_ediv_iff_mul_le (by omega)]
  unfold cntOf
  omega
/-- What the search has found when j numbers of a kind are tried. -/
def fillUpto (k : Kind) (ks : List Kind) (now : List Int) (left cards : Int) (acc : Found) (j : Nat) : Found :=
  (List.range j).foldl (fun (acc : Found) (n : Nat) => fillGo ks (now ++ [(n : Int)]) (left - n * k.holds) (cards + n) acc) acc
theorem fillUpto_succ (k : Kind) (ks : List Kind) (now : List Int) (left cards : Int) (acc : Found) (j : Nat) : fillUpto k ks now left cards acc (j + 1) = fillGo ks (now ++ [(j : Int)]) (left - j * k.holds) (cards + j) (fillUpto k ks now left cards acc j) := by
  unfold fillUpto; rw [List.range_succ, List.foldl_append]; rfl
theorem fillUpto_all (k : Kind) (ks : List Kind) (now : List Int) (left cards : Int) (acc : Found) : fillUpto k ks now left cards acc (cntOf k left) = fillGo (k :: ks) now left cards acc := rfl

theorem wrap_id {x : Int} (h1 : -9223372036854775808 ≤ x) (h2 : x ≤ 9223372036854775807) : IntKind.i64.wrap x = x := by
  rw [IntKind.wrap_i64]; omega
/-- The contract of the search, with the kinds ks left. -/
def FillCall (K : List Kind) (w0 : World) (kb ob lb sb : Nat) (kv : Value) (ks : List Kind) : Prop :=
  ∀ (nowv : Value) (now : List Int) (left cards : Int) (A : World) (acc : Found), now.length + ks.length = K.length → K.drop now.length = ks → 0 ≤ left → left ≤ 3000 → 0 ≤ cards → cards ≤ now.length * 20 →
    FillEnv K w0 kb ob lb sb kv A → FillAt ob lb A acc → IntsOff (fun i => i = ob ∨ i = lb) A nowv now →
    Calls Tryz.prog 77 #[nowv, .int .i64 left, .int .i64 cards, .pointer (some ⟨kb, 0, none⟩), .pointer (some ⟨ob, 0, none⟩), .pointer (some ⟨lb, 0, none⟩), .pointer (some ⟨sb, 0, none⟩)] A fun e w' =>
      FillPost ob lb A (fillGo ks now left cards acc) e w' ∧ w'.frozen? ⟨ob, 0, none⟩ = false ∧ w'.frozen? ⟨lb, 0, none⟩ = false

set_option maxRecDepth 100000 in
set_option maxHeartbeats 4000000 in
theorem fill_node (K : List Kind) (w0 : World) (kb ob lb sb : Nat) (kv : Value) (k : Kind) (ks : List Kind) (hk : KindsAt w0 kv K) (hgood : ∀ k, k ∈ K → badKind k = false) (hK : K.length ≤ 4) (hob : ob ≠ lb)
    (m0 : w0.heap.size ≤ ob) (m1 : w0.heap.size ≤ lb) (n1 : kb ≠ ob) (n2 : kb ≠ lb) (n3 : sb ≠ ob) (n4 : sb ≠ lb) (ih : FillCall K w0 kb ob lb sb kv ks) : FillCall K w0 kb ob lb sb kv (k :: ks) := by
  intro nowv now left cards A acc hlen hdrop hl0 hl1 hc0 hc1 hE hA hN
  have hil : now.length < K.length := by simp at hlen; omega
  have hki : K[now.length]? = some k := by
    have := congrArg List.head? hdrop
    rw [List.head?_drop] at this; simpa using this
  have hdrop2 : K.drop (now.length + 1) = ks := by
    have := congrArg List.tail hdrop
    rw [List.tail_drop] at this; simpa using this
  obtain ⟨a, c, rfl, r1, r2, r3⟩ := hk.open
  obtain ⟨b, o, k', rfl, hk', kc0, kc1⟩ := r3 now.length hil
  have : k' = k := by have := hk'.out; rw [hki] at this; cases this; rfl
  subst this
  obtain ⟨⟨hh1, hh2⟩, hm1, hm2⟩ : (1 ≤ k'.holds ∧ k'.holds ≤ 36) ∧ (0 ≤ k'.many ∧ k'.many ≤ 20) := by
    have := hgood k' (List.mem_of_getElem? hki)
    simp only [badKind, Bool.or_eq_false_iff, Bool.not_eq_false', inB_iff] at this
    exact this
  have t1 : ((now.length : Int) == (K.length : Int)) = false := by rw [beq_eq_false_iff_ne]; omega
  have t2 : (now.length == K.length) = false := by rw [beq_eq_false_iff_ne]; omega
  obtain ⟨na, nc, rfl, _⟩ := hN.1.open
  have e0 := hE.k
  have hmix : Tryz.prog.follows .mixedOrders = true := by kernel_rfl
  have hN5 : now.length ≤ 4 := by omega
  have HI := Lib.hid ih
  have HCNT := Lib.hid (fun j => cntOf_lt (k := k') (left := left) (j := j) hh1 hm1 hl0)
  have HLEN := Lib.hid hlen
  have HD := Lib.hid hdrop2
  have HG := Lib.hid hgood
  have HC1 := Lib.hid hc1
  have hcb : cards ≤ 100 := by omega
  clear ih hdrop hdrop2 hki hlen hgood r3 hk' hc1
  go_enter Tryz.func77, Tryz.ntmps77
  go_wp2
  clear t1 t2
  go_loopw [11] (fun i wr => ∃ (j : Nat), j ≤ cntOf k' left ∧ i = .int .i64 j ∧ Touch (fun i => i = ob ∨ i = lb) A wr ∧ FillAt ob lb wr (fillUpto k' ks now left cards acc j) ∧ wr.frozen? ⟨ob, 0, none⟩ = false ∧ wr.frozen? ⟨lb, 0, none⟩ = false) (fun i _ => cntOf k' left - (intOf i).toNat)
  case atStart => exact ⟨0, Nat.zero_le _, rfl, Touch.refl _ _, hA, hE.f0, hE.f1⟩
  case round =>
    obtain ⟨j, hj, rfl, hT, hAw, fz0, fz1⟩ := hrel
    have hEw := hE.touch hT m0 m1 n1 n2 n3 n4 ⟨fz0, fz1⟩
    have hNw := hN.touch hT
    have d0 := hEw.k
    have d1 := hEw.ext.cell kc0
    have d2 := hEw.ext.cell kc1
    have d3 := hEw.s
    have b1 : (now.length : Int) < (K.length : Int) := by omega
    have b0 : (0 : Int) ≤ (now.length : Int) := by omega
    by_cases hlt : j < cntOf k' left
    · obtain ⟨u1, u2⟩ := (HCNT.out j).1 hlt
      have hp0 : 0 ≤ (j : Int) * k'.holds := Int.mul_nonneg (by omega) (by omega)
      have x1 : decide ((j : Int) ≤ k'.many) = true := by simpa using u1
      have x2 : decide ((j : Int) * k'.holds ≤ left) = true := by simpa using u2
      obtain ⟨_, _, hob0, hlb0⟩ := hAw.cells
      have hnb : ¬ (b = ob ∨ b = lb) := fun h => by have := lt_of_cell kc0; simp only at this; omega
      have HNB := Lib.hid hnb
      clear hnb
      have HN12 := Lib.hid (show (¬ (kb = ob ∨ kb = lb)) ∧ ¬ (sb = ob ∨ sb = lb) by omega)
      have HAW := Lib.hid hAw
      have HNW := Lib.hid hNw
      have HEW := Lib.hid hEw
      have HT := Lib.hid hT
      have HCl := Lib.hid (fun w1 (hx : Ext wr w1) => clone_any (.slice na now.length nc) now w1 (hNw.1.ext hx) (by omega))
      have HSm := Lib.hid (small_len (n := now.length) (by omega))
      have HSE := Lib.hid (fun w1 (hx : Ext wr w1) => And.intro (hx.cell d0) (And.intro (hx.cell d1) (hx.cell d3)))
      clear hAw hNw hEw hN hE hA hk kc0 kc1
      have hp1 : (j : Int) * k'.holds ≤ 20 * 36 := Int.mul_le_mul (by omega) hh2 (by omega) (by omega)
      have W1 : IntKind.i64.wrap (left - IntKind.i64.wrap ((j : Int) * k'.holds)) = left - j * k'.holds := by
        rw [wrap_id (x := (j : Int) * k'.holds) (by omega) (by omega), wrap_id (by omega) (by omega)]
      have W2 : IntKind.i64.wrap (cards + (j : Int)) = cards + j := wrap_id (by omega) (by omega)
      have HNXT := Lib.hid (fun (vs : Value) (w2 : World) (hx2 : Ext wr w2) (hrow : IntsOff (· < wr.heap.size) w2 vs (now ++ [(j : Int)])) =>
        HI.out vs (now ++ [(j : Int)]) (left - j * k'.holds) (cards + j) w2 (fillUpto k' ks now left cards acc j) (by have := HLEN.out; simp at this ⊢; omega) (by rw [List.length_append]; exact HD.out) (by omega) (by omega) (by omega) (by have := HC1.out; simp; omega)
          (HEW.out.touch (Touch.of_ext hx2) m0 m1 n1 n2 n3 n4 ⟨(hx2.frozen (lt_of_cell hob0)).trans fz0, (hx2.frozen (lt_of_cell hlb0)).trans fz1⟩) (HAW.out.ext hx2) (hrow.less (fun i hi => by
            rcases hi with rfl | rfl
            · exact lt_of_cell hob0
            · exact lt_of_cell hlb0)))
      have HW := Lib.hid (And.intro W1 W2)
      clear hob0 hlb0 n1 n2 W1 W2
      go_upto_region 7 with fail
      go_region_held3 (fun w' => w'.cell? ⟨kb, 0, none⟩ = some (.slice (some ⟨b, o, none⟩) K.length c) ∧ w'.cell? ⟨b, o + now.length * 2, none⟩ = some (.int .i64 k'.holds) ∧ w'.cell? ⟨sb, 0, none⟩ = some (.func (.func 77) #[] #[.pointer (some ⟨kb, 0, none⟩), .pointer (some ⟨ob, 0, none⟩), .pointer (some ⟨lb, 0, none⟩), .pointer (some ⟨sb, 0, none⟩)])) (first | go_keep | exact HSE.out _ (((Ext.refl wr).drew).alloc _) | exact HSE.out _ (hxa.alloc _))
          (first
            | (go_at_call 78; refine (HCl.out _ (by first | exact (Ext.refl wr).drew | exact ((Ext.refl wr).drew).alloc _)).mono ?_; rintro e w1 ⟨v1, rfl, hown1, hx1⟩; have hxa : Ext wr w1 := Ext.trans (by first | exact (Ext.refl wr).drew | exact ((Ext.refl wr).drew).alloc _) hx1; have z0 := hxa.cell d0; have z1 := hxa.cell d1; have z2 := hxa.cell d3)
            | (refine step_append_row E_ints (by rfl) _ _ (by rfl) _ (by rfl) (hown1.alloc (Obj.cells #[.int .i64 j] 3)) (by rfl) (RowAt.new1 w1 #[.int .i64 j] 3) (by rfl) (by simp [Value.oneCell']) HSm.out.1 HSm.out.2 (Nat.le_trans hx1.size ((Ext.refl w1).alloc _).size) ?_; intro v2 w2 hown2 hgrow _; have hx2 : Ext wr w2 := (hxa.alloc _).grown hgrow (fun g hg => Nat.le_trans (Nat.le_refl _) (owns_block hown1 g hg)); have hrow := row_push (Nat.le_refl wr.heap.size) hown2; have y0 := hx2.cell d0; have y1 := hx2.cell d1; have y2 := hx2.cell d3)
            | (refine step_append_row E_ints (by rfl) _ _ (by rfl) _ (by rfl) hown1 (by rfl) ((RowAt.new1 wr.drew #[.int .i64 j] 3).ext hx1) (by rfl) (by simp [Value.oneCell']) HSm.out.1 HSm.out.2 hx1.size ?_; intro v2 w2 hown2 hgrow _; have hx2 : Ext wr w2 := hxa.grown hgrow (fun g hg => Nat.le_trans (((Ext.refl wr).drew).alloc _).size (owns_block hown1 g hg)); have hrow := row_push (((Ext.refl wr).drew).alloc (Obj.cells #[.int .i64 j] 3)).size hown2; have y0 := hx2.cell d0; have y1 := hx2.cell d1; have y2 := hx2.cell d3)
            | (go_at_call 77; rw [HW.out.1, HW.out.2]; refine (HNXT.out v2 w2 hx2 hrow).mono ?_; rintro e w4 ⟨⟨rfl, ht4, hA4⟩, fy0, fy1⟩; have x0 := ht4.cell y0 HN12.out.1; have x2 := ht4.cell y2 HN12.out.2; have x1 := ht4.cell y1 (fun h => HNB.out h)))
      all_goals go_wp2
      all_goals (go_roundw; (case rel => exact ⟨j + 1, by omega, by go_num, HT.out.trans ((Touch.of_ext hx2).trans ht4), by rw [fillUpto_succ]; exact hA4, fy0, fy1⟩); (case measure => simp [intOf]; omega))
    · have hje : j = cntOf k' left := by omega
      have hnot : ¬ ((j : Int) ≤ k'.many ∧ (j : Int) * k'.holds ≤ left) := fun h => hlt ((HCNT.out j).2 h)
      have hfin : FillPost ob lb A (fillGo (k' :: ks) now left cards acc) (.returned (.tuple #[])) wr ∧ wr.frozen? ⟨ob, 0, none⟩ = false ∧ wr.frozen? ⟨lb, 0, none⟩ = false := ⟨⟨rfl, hT, by rw [← fillUpto_all, ← hje]; exact hAw⟩, fz0, fz1⟩
      have HF := Lib.hid hfin
      clear hfin hAw hT hEw hNw hA hE hk hje
      by_cases u1 : (j : Int) ≤ k'.many
      · have u2 : ¬ (j : Int) * k'.holds ≤ left := fun h => hnot ⟨u1, h⟩
        have hp0 : 0 ≤ (j : Int) * k'.holds := Int.mul_nonneg (by omega) (by omega)
        have hp1 : (j : Int) * k'.holds ≤ 20 * 36 := Int.mul_le_mul (by omega) hh2 (by omega) (by omega)
        have x1 : decide ((j : Int) ≤ k'.many) = true := by simpa using u1
        have x2 : decide ((j : Int) * k'.holds ≤ left) = false := by simpa using u2
        clear hnot hlt hj
        go_wp2
        go_end0
        exact HF.out
      · have x1 : decide ((j : Int) ≤ k'.many) = false := by simpa using u1
        clear hnot hlt hj
        go_wp2
        go_end0
        exact HF.out
end Go.Proofs.YtbeophjdiddomaaGreatDoor

/- Fill. -/
namespace Go.Proofs.YtbeophjdiddomaaGreatDoor
open Go.RowKit

theorem fill_all (K : List Kind) (w0 : World) (kb ob lb sb : Nat) (kv : Value) (hk : KindsAt w0 kv K) (hgood : ∀ k, k ∈ K → badKind k = false) (hK : K.length ≤ 4) (hpos : 1 ≤ K.length) (hob : ob ≠ lb)
    (m0 : w0.heap.size ≤ ob) (m1 : w0.heap.size ≤ lb) (n1 : kb ≠ ob) (n2 : kb ≠ lb) (n3 : sb ≠ ob) (n4 : sb ≠ lb) : ∀ ks, FillCall K w0 kb ob lb sb kv ks
  | [] => fun nowv now left cards A acc hl hd h0 h1 c0 c1 hE hA hN => fill_leaf K w0 kb ob lb sb kv nowv now left cards A acc hk hE hA hN (by simpa using hl) hpos hob
  | k :: ks => fill_node K w0 kb ob lb sb kv k ks hk hgood hK hob m0 m1 n1 n2 n3 n4 (fill_all K w0 kb ob lb sb kv hk hgood hK hpos hob m0 m1 n1 n2 n3 n4 ks)
theorem enters_fill2 : ∀ args w, (callFunc 77 args).run Tryz.prog w = .ok (.enter 77 args) w := enters_of Tryz.func77 (by kernel_rfl) rfl

/-- What Fill answers. -/
def FillRes (ks : List Kind) (buttons : Int) (w : World) (e : Ending) (w' : World) : Prop :=
  ∃ nv d err, e = .returned (.tuple #[nv, .int .i64 d, .int .i64 err]) ∧ Ext w w' ∧
    if isKindsB ks = true ∧ inB buttons 0 3000 = true then (match fillOf ks buttons with | none => nv = .slice none 0 0 ∧ d = 0 ∧ err = 5 | some (x, n) => IntsAt w' nv x ∧ d = n ∧ err = 0)
    else nv = .slice none 0 0 ∧ d = 0 ∧ err = 2

set_option maxRecDepth 100000 in
set_option maxHeartbeats 4000000 in
theorem fill_any (v : Value) (ks : List Kind) (buttons : Int) (w : World) (hk : KindsAt w v ks) : Calls Tryz.prog 34 #[v, .int .i64 buttons] w (FillRes ks buttons w) := by
  have HC := Lib.hid (fun w1 (hx : Ext w w1) => containsFuncK v ks w1 (hk.ext hx))
  obtain ⟨a, c, rfl, r1, r2, _⟩ := hk.open
  have hmix : Tryz.prog.follows .mixedOrders = true := by kernel_rfl
  have hbad : ∀ w1, Ext w w1 → ¬ (isKindsB ks = true ∧ inB buttons 0 3000 = true) → FillRes ks buttons w (.returned (.tuple #[.slice none 0 0, .int .i64 0, .int .i64 2])) w1 := fun w1 hx hn => ⟨_, _, _, rfl, hx, by rw [if_neg hn]; exact ⟨rfl, rfl, rfl⟩⟩
  have HBAD := Lib.hid hbad
  clear hbad
  have hxa : Ext w (w.alloc (.cells #[.slice a ks.length c] 74)) := (Ext.refl w).alloc _
  have hq0 : (w.alloc (.cells #[.slice a ks.length c] 74)).cell? ⟨w.heap.size, 0, none⟩ = some (.slice a ks.length c) := by go_simp
  cases h1 : inB ks.length 1 4 with
  | false =>
    clear hk
    go_enter Tryz.func34, Tryz.ntmps34
    go_wp2_with (go_at_call 45; refine (in_any _ _ _ _).mono ?_; rintro e w' ⟨rfl, rfl⟩)
    go_ret3
    exact HBAD.out _ hxa (by simp [isKindsB, h1])
  | true =>
    cases h2 : ks.any badKind with
    | true =>
      clear hk
      go_enter Tryz.func34, Tryz.ntmps34
      go_wp2_with (first | (go_at_call 45; refine (in_any _ _ _ _).mono ?_; rintro e w' ⟨rfl, rfl⟩) | (go_at_call 75; refine (HC.out _ hxa).mono ?_; rintro e w1 ⟨rfl, hx1⟩))
      go_ret3
      exact HBAD.out _ (hxa.trans hx1) (by simp [isKindsB, h2])
    | false =>
      cases h3 : inB buttons 0 3000 with
      | false =>
        clear hk
        go_enter Tryz.func34, Tryz.ntmps34
        go_wp2_with (first | (go_at_call 45; refine (in_any _ _ _ _).mono ?_; rintro e w' ⟨rfl, rfl⟩) | (go_at_call 75; refine (HC.out _ hxa).mono ?_; rintro e w1 ⟨rfl, hx1⟩))
        go_ret3
        exact HBAD.out _ (hxa.trans hx1) (by simp [h3])
      | true =>
        have hb := inB_iff.1 h3
        have hl := inB_iff.1 h1
        have hgood : ∀ k, k ∈ ks → badKind k = false := fun k hk => by
          simp only [List.any_eq_false] at h2; simpa using h2 k hk
        have hok : isKindsB ks = true ∧ inB buttons 0 3000 = true := ⟨by simp [isKindsB, h1, h2], h3⟩
        have hnl := fun (w : World) (a : Option Addr) (n c : Nat) => Lib.run_eql_slice_nil (P := Tryz.prog) w 33 3 a n c 0 0 Tryz.underlying33
        have hcall : ∀ w1, Ext w w1 → ∀ A, w1.heap.size + 3 = A.heap.size → Ext w1 A → A.cell? ⟨w.heap.size, 0, none⟩ = some (.slice a ks.length c) → w.heap.size < w1.heap.size →
            A.cell? ⟨w1.heap.size, 0, none⟩ = some (.slice none 0 0) → A.cell? ⟨w1.heap.size + 1, 0, none⟩ = some (.int .i64 0) → A.frozen? ⟨w1.heap.size, 0, none⟩ = false → A.frozen? ⟨w1.heap.size + 1, 0, none⟩ = false →
            A.cell? ⟨w1.heap.size + 1 + 1, 0, none⟩ = some (.func (.func 77) #[] #[.pointer (some ⟨w.heap.size, 0, none⟩), .pointer (some ⟨w1.heap.size, 0, none⟩), .pointer (some ⟨w1.heap.size + 1, 0, none⟩), .pointer (some ⟨w1.heap.size + 1 + 1, 0, none⟩)]) →
            Calls Tryz.prog 77 #[.slice none 0 0, .int .i64 buttons, .int .i64 0, .pointer (some ⟨w.heap.size, 0, none⟩), .pointer (some ⟨w1.heap.size, 0, none⟩), .pointer (some ⟨w1.heap.size + 1, 0, none⟩), .pointer (some ⟨w1.heap.size + 1 + 1, 0, none⟩)] A fun e w' =>
              FillPost w1.heap.size (w1.heap.size + 1) A (fillOf ks buttons) e w' := fun w1 hx A hz hxA q0 hlt q1 q2 f1 f2 q3 =>
          (fill_all ks w1 w.heap.size w1.heap.size (w1.heap.size + 1) (w1.heap.size + 1 + 1) (.slice a ks.length c) (hk.ext hx) hgood (by omega) (by omega) (by omega) (Nat.le_refl _) (by omega) (by omega) (by omega) (by omega) (by omega) ks
            (.slice none 0 0) [] buttons 0 A none (by simp) (by simp) hb.1 hb.2 (by omega) (by simp) ⟨hxA, q0, q3, f1, f2⟩ ⟨q1, q2⟩ (IntsOff.nil _ _)).mono (fun e w' h => h.1)
        have HCL := Lib.hid hcall
        clear hcall hk hgood hb
        cases hfo : fillOf ks buttons with
        | none =>
          rw [hfo] at HCL
          have hfin : ∀ w1, Ext w w1 → FillRes ks buttons w (.returned (.tuple #[.slice none 0 0, .int .i64 0, .int .i64 5])) w1 := fun w1 hx => ⟨_, _, _, rfl, hx, by rw [if_pos hok, hfo]; exact ⟨rfl, rfl, rfl⟩⟩
          have HF := Lib.hid hfin
          clear hfin hfo hok
          go_enter Tryz.func34, Tryz.ntmps34
          go_wp2_with (first
            | (go_at_call 45; refine (in_any _ _ _ _).mono ?_; rintro e w' ⟨rfl, rfl⟩)
            | (go_at_call 75; refine (HC.out _ hxa).mono ?_; rintro e w1 ⟨rfl, hx1⟩; have hxw := hxa.trans hx1; have hlt := lt_of_cell (hx1.cell hq0))
            | (go_at_call 77; refine (HCL.out w1 hxw _ (by simp) ((((Ext.refl w1).alloc _).alloc _).alloc _) (((((Ext.refl w1).alloc _).alloc _).alloc _).cell (hx1.cell hq0)) hlt (by go_simp) (by go_simp) (by go_simp) (by go_simp) (by go_simp)).mono ?_; rintro e w2 ⟨rfl, ht2, hA2⟩; have q2 := hA2.1; have q3 := hA2.2))
          go_ret3
          exact HF.out _ (Touch.ext (((hxw.alloc _).alloc _).alloc _) ht2 (fun i hi => by have := hxw.size; omega))
        | some p =>
          obtain ⟨x, n⟩ := p
          rw [hfo] at HCL
          have hfin : ∀ w1 v, Ext w w1 → IntsAt w1 v x → FillRes ks buttons w (.returned (.tuple #[v, .int .i64 n, .int .i64 0])) w1 := fun w1 v hx hv => ⟨_, _, _, rfl, hx, by rw [if_pos hok, hfo]; exact ⟨hv, rfl, rfl⟩⟩
          have HF := Lib.hid hfin
          clear hfin hfo hok
          go_enter Tryz.func34, Tryz.ntmps34
          go_wp2_with (first
            | (go_at_call 45; refine (in_any _ _ _ _).mono ?_; rintro e w' ⟨rfl, rfl⟩)
            | (go_at_call 75; refine (HC.out _ hxa).mono ?_; rintro e w1 ⟨rfl, hx1⟩; have hxw := hxa.trans hx1; have hlt := lt_of_cell (hx1.cell hq0))
            | (go_at_call 77; refine (HCL.out w1 hxw _ (by simp) ((((Ext.refl w1).alloc _).alloc _).alloc _) (((((Ext.refl w1).alloc _).alloc _).alloc _).cell (hx1.cell hq0)) hlt (by go_simp) (by go_simp) (by go_simp) (by go_simp) (by go_simp)).mono ?_; rintro e w2 ⟨rfl, ht2, hA2⟩; obtain ⟨ra, rc, q2, q3, q4⟩ := hA2))
          go_quiet (fail)
          go_wp2
          go_ret3
          exact HF.out _ _ ((Touch.ext (((hxw.alloc _).alloc _).alloc _) ht2 (fun i hi => by have := hxw.size; omega)).drewN _) (q4.1.ext ((Ext.refl _).drewN _))
end Go.Proofs.YtbeophjdiddomaaGreatDoor
