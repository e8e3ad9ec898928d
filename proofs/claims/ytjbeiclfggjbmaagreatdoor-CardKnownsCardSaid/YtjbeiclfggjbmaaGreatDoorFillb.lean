/- Plan: the whole. -/
import Derived.Test.YtjbeiclfggjbmaaGreatDoorPlan
import Derived.Test.YtjbeiclfggjbmaaGreatDoorWeigh
import Derived.WalkSpells
namespace Go.Proofs.YtjbeiclfggjbmaaGreatDoor
open Go.RowKit

theorem planEn.form {c : Roads} {M : Nat → Prop} {A : World} {x : List (List Int)} {v : Value} (h : planEn c M A x v) : ∃ pa n k d, v = .agg #[.slice pa n k, .int .i64 d] := by
  obtain ⟨nv, rfl, hn⟩ := h
  obtain ⟨a, k, rfl, _⟩ := hn.rows.open
  exact ⟨_, _, _, _, rfl⟩
theorem planEn.touch {c : Roads} {M N : Nat → Prop} {A B : World} {x : List (List Int)} {v : Value} (h : planEn c M A x v) (k : Touch N A B) (hm : ∀ i, N i → M i) : planEn c M B x v := by
  obtain ⟨nv, rfl, hn⟩ := h; exact ⟨nv, rfl, hn.touch (k.mono hm)⟩
theorem planEn.quiet {c : Roads} {M : Nat → Prop} {n : Nat} {A B : World} {x : List (List Int)} {v : Value} (h : planEn c M A x v) (k : Quiet n A B) : planEn c M B x v := by
  obtain ⟨nv, rfl, hn⟩ := h; exact ⟨nv, rfl, hn.quiet k⟩
theorem enters_plan1 : ∀ args w, (callFunc 118 args).run Tryz.prog w = .ok (.enter 118 args) w := enters_of Tryz.func118 (by kernel_rfl) rfl

/-- The plan that is best. -/
def bestPlan (c : Roads) : Option (List (List Int)) := firstBest (betterB c) (plansOf c)
def PlanPost (c : Roads) (w : World) (e : Ending) (w' : World) : Prop :=
  ∃ pa n k d, e = .returned (.agg #[.slice pa n k, .int .i64 d]) ∧ Ext w w' ∧ match bestPlan c with | none => pa = none ∧ n = 0 ∧ k = 0 ∧ d = 0 | some x => d = planLen c x ∧ RowsOff (· < w.heap.size) w' (.slice pa n k) x

theorem RowsOff.less {M N : Nat → Prop} {w : World} {v : Value} {xss : List (List Int)} (h : RowsOff M w v xss) (hm : ∀ i, N i → M i) : RowsOff N w v xss := by
  obtain ⟨vs, h1, h2, h3, h4⟩ := h
  exact ⟨vs, h1, h2, fun a n c ha hn => h3 a n c ha (hm _ hn), fun i x xs hx hxs => (h4 i x xs hx hxs).less hm⟩

theorem best_plans (c : Roads) (w : World) (lv fv : Value) (cb : Nat) (hB : RoadsB c) (hR : RoadsAt w (.agg #[lv, .int .i64 c.bears, fv]) c)
    (c0 : w.cell? ⟨cb, 0, none⟩ = some lv) (c1 : w.cell? ⟨cb, 1, none⟩ = some (.int .i64 c.bears)) (c2 : w.cell? ⟨cb, 2, none⟩ = some fv) :
    Calls Tryz.prog 116 #[.func (.func 168) #[] #[.pointer (some ⟨cb, 0, none⟩)], .func (.func 118) #[] #[]] w (PlanPost c w) := by
  refine (best_plan (betterB c) (planEn c (· < w.heap.size + 6)) (plansOf c) w _ _ _ _ enters_plans1 enters_plan1 (fun A x v h => h.form) (fun A B x v h k => h.touch k (fun i hi => by omega)) (fun n A B x v h k => h.quiet k)
    (fun W hx hz => by
      have hi := (plans_iter c w W cb lv fv (fun i => w.heap.size ≤ i ∧ i < w.heap.size + 6) hB hR (fun i hi => by omega) (fun h => by have : cb < w.heap.size := lt_of_cell c0; omega) hx (hx.cell c0) (hx.cell c1) (hx.cell c2)).less (N := fun i => (i = w.heap.size + 2 ∨ i = w.heap.size + 3) ∨ i = w.heap.size + 5) (fun i hi => by omega)
      rw [hz] at hi
      exact hi)
    ?_).mono ?_
  · rintro A x y vx vy hx ⟨nx, rfl, hnx⟩ ⟨ny, rfl, hny⟩
    exact plan1_any c nx ny x y A hnx.rows hny.rows
  · rintro e w' ⟨nv, dv, rfl, hx, h⟩
    cases hbb : firstBest (betterB c) (plansOf c) with
    | none => rw [hbb] at h; obtain ⟨rfl, rfl⟩ := h; exact ⟨_, _, _, _, rfl, hx, by unfold bestPlan; rw [hbb]; exact ⟨rfl, rfl, rfl, rfl⟩⟩
    | some x =>
      rw [hbb] at h
      obtain ⟨pa, n, k, d, hv⟩ := h.form
      cases hv
      obtain ⟨nv', h1, h2⟩ := h
      cases h1
      exact ⟨_, _, _, _, rfl, hx, by unfold bestPlan; rw [hbb]; exact ⟨rfl, h2.less (fun i hi => by omega)⟩⟩

/-- What Plan answers. -/
def PlanRes (c : Roads) (w : World) (e : Ending) (w' : World) : Prop :=
  ∃ nv d err, e = .returned (.tuple #[nv, .int .i64 d, .int .i64 err]) ∧ Ext w w' ∧
    if isRoadsB c = false then nv = .slice none 0 0 ∧ d = 0 ∧ err = 2
    else if c.bears < maxL c.loads then nv = .slice none 0 0 ∧ d = 0 ∧ err = 5
    else err = 0 ∧ match bestPlan c with | none => nv = .slice none 0 0 ∧ d = 0 | some x => d = planLen c x ∧ RowsAt w' nv x

set_option maxRecDepth 100000 in
set_option maxHeartbeats 4000000 in
theorem plan_any (v : Value) (c : Roads) (w : World) (hR : RoadsAt w v c) : Calls Tryz.prog 56 #[v] w (PlanRes c w) := by
  have HR := Lib.hid (fun w1 (hx : Ext w w1) => isRoads_any v c w1 (hR.ext hx))
  have hR0 := hR
  obtain ⟨lv, fv, rfl, hlv, hfv⟩ := hR0
  have HMX := Lib.hid (fun (hn : c.loads ≠ []) w1 (hx : Ext w w1) => (max_any lv c.loads w1 (hlv.ext hx) hn).mono (R' := fun e w' => e = .returned (.int .i64 (maxL c.loads)) ∧ w' = w1) (fun e w' h => ⟨h.1, h.2.symm⟩))
  have HB := Lib.hid (fun hB w1 (hx : Ext w w1) cb => best_plans c w1 lv fv cb hB (hR.ext hx))
  obtain ⟨la, lk, rfl, _⟩ := hlv.open
  obtain ⟨fa, fk, rfl, _⟩ := hfv.open
  have HPL := Lib.hid (fun w1 => plans_any (.slice la c.loads.length lk) (.slice fa c.far.length fk) c w1 ⟨_, _, _, rfl⟩ ⟨_, _, _, rfl⟩)
  clear hlv hfv hR
  have hmix : Tryz.prog.follows .mixedOrders = true := by kernel_rfl
  by_cases hr : isRoadsB c = true
  · have hrb := roadsB_of hr
    have hne : c.loads ≠ [] := fun e => by have := hrb.n1; rw [e] at this; simp at this
    by_cases hb : c.bears < maxL c.loads
    · have hfin : ∀ w1, Ext w w1 → PlanRes c w (.returned (.tuple #[.slice none 0 0, .int .i64 0, .int .i64 5])) w1 := fun w1 hx => ⟨_, _, _, rfl, hx, by rw [if_neg (by rw [hr]; simp), if_pos hb]; exact ⟨rfl, rfl, rfl⟩⟩
      have HF := Lib.hid hfin
      have hd : decide (c.bears < maxL c.loads) = true := by simpa using hb
      clear hfin
      go_enter Tryz.func56, Tryz.ntmps56
      go_wp2_with (go_at_call 109; refine (HR.out _ ((Ext.refl w).alloc _)).mono ?_; rintro e w1 ⟨rfl, hx1⟩; have q0 := hx1.cell (a := ⟨w.heap.size, 0, none⟩) (v := .slice la c.loads.length lk) (by go_simp); have q1 := hx1.cell (a := ⟨w.heap.size, 1, none⟩) (v := .int .i64 c.bears) (by go_simp))
      have hxw := ((Ext.refl w).alloc (.cells #[.slice la c.loads.length lk, .int .i64 c.bears, .slice fa c.far.length fk] 60)).trans hx1
      go_quiet ((go_at_call 115; exact Calls.quiet_of_same (HMX.out hne _ (hxw.drewN _))))
      go_wp2
      go_ret3
      exact HF.out _ (hxw.drewN _)
    · have hd : decide (c.bears < maxL c.loads) = false := by simpa using hb
      go_enter Tryz.func56, Tryz.ntmps56
      go_wp2_with (go_at_call 109; refine (HR.out _ ((Ext.refl w).alloc _)).mono ?_; rintro e w1 ⟨rfl, hx1⟩; have q0 := hx1.cell (a := ⟨w.heap.size, 0, none⟩) (v := .slice la c.loads.length lk) (by go_simp); have q1 := hx1.cell (a := ⟨w.heap.size, 1, none⟩) (v := .int .i64 c.bears) (by go_simp); have q2 := hx1.cell (a := ⟨w.heap.size, 2, none⟩) (v := .slice fa c.far.length fk) (by go_simp))
      have hxw := ((Ext.refl w).alloc (.cells #[.slice la c.loads.length lk, .int .i64 c.bears, .slice fa c.far.length fk] 60)).trans hx1
      go_quiet ((go_at_call 115; exact Calls.quiet_of_same (HMX.out hne _ (hxw.drewN _))))
      go_wp2_with (first | (go_at_call 117; refine (HPL.out _).mono ?_; rintro e w2 ⟨cb, rfl, hx2, _, d0, d1, d2⟩) | (go_at_call 116; refine (HB.out hrb w2 ((hxw.drewN _).trans hx2) cb d0 d1 d2).mono ?_; rintro e w3 ⟨pa, n, k, d, rfl, hx3, hv⟩; have HV := Lib.hid hv; clear hv))
      go_quiet (fail)
      go_wp2
      go_ret3
      have hx4 := ((((hxw.drewN _).trans hx2).trans hx3).alloc (.cells #[.slice pa n k, .int .i64 d] 138)).drewN nq
      refine ⟨.slice pa n k, d, 0, rfl, hx4, ?_⟩
      rw [if_neg (by rw [hr]; simp), if_neg (by omega)]
      refine ⟨rfl, ?_⟩
      have hv := HV.out
      cases hbp : bestPlan c with
      | none => rw [hbp] at hv; obtain ⟨rfl, rfl, rfl, rfl⟩ := hv; exact ⟨rfl, rfl⟩
      | some x => rw [hbp] at hv; exact ⟨hv.1, hv.2.rows.ext (((Ext.refl _).alloc _).drewN _)⟩
  · have hr' : isRoadsB c = false := by simpa using hr
    have hfin : ∀ w1, Ext w w1 → PlanRes c w (.returned (.tuple #[.slice none 0 0, .int .i64 0, .int .i64 2])) w1 := fun w1 hx => ⟨_, _, _, rfl, hx, by rw [if_pos hr']; exact ⟨rfl, rfl, rfl⟩⟩
    have HF := Lib.hid hfin
    clear hfin
    go_enter Tryz.func56, Tryz.ntmps56
    go_wp2_with (go_at_call 109; refine (HR.out _ ((Ext.refl w).alloc _)).mono ?_; rintro e w1 ⟨rfl, hx1⟩)
    go_ret3
    exact HF.out _ (((Ext.refl w).alloc _).trans hx1)
end Go.Proofs.YtjbeiclfggjbmaaGreatDoor

/- Fillings: what Fill computes, and the contracts of its small functions. -/
namespace Go.Proofs.YtjbeiclfggjbmaaGreatDoor
open Go.RowKit

/-! ### In plain Lean -/
structure Kind where
  holds : Int
  many : Int
def Kind.cells (k : Kind) : List Value := [.int .i64 k.holds, .int .i64 k.many]
def badKind (k : Kind) : Bool := !inB k.holds 1 36 || !inB k.many 0 20
def isKindsB (ks : List Kind) : Bool := inB ks.length 1 4 && !ks.any badKind
/-- How many numbers of cards of a kind are tried. -/
def cntOf (k : Kind) (left : Int) : Nat := (min k.many (left / k.holds) + 1).toNat
/-- A filling that was found, and how many cards it takes. -/
abbrev Found : Type := Option (List Int × Int)
def fewerB (cards : Int) : Found → Bool
  | none => true
  | some p => decide (cards < p.2)
def fillGo : List Kind → List Int → Int → Int → Found → Found
  | [], now, left, cards, acc => if left = 0 ∧ fewerB cards acc = true then some (now, cards) else acc
  | k :: ks, now, left, cards, acc => (List.range (cntOf k left)).foldl (fun (acc : Found) (n : Nat) => fillGo ks (now ++ [(n : Int)]) (left - n * k.holds) (cards + n) acc) acc
def fillOf (ks : List Kind) (buttons : Int) : Found := fillGo ks [] buttons 0 none

/-! ### Kinds in memory -/
def KindsAt (w : World) (v : Value) (ks : List Kind) : Prop := RowAt w v ks.length (ks.flatMap Kind.cells)
theorem KindsAt.ext {w w' : World} {v : Value} {ks : List Kind} (h : KindsAt w v ks) (k : Ext w w') : KindsAt w' v ks := RowAt.ext h k
theorem KindsAt.open {w : World} {v : Value} {hs : List Kind} (h : KindsAt w v hs) : ∃ a c, v = .slice a hs.length c ∧ hs.length ≤ c ∧ c ≤ 9223372036854775807 ∧ ∀ i, i < hs.length → ∃ b o x, a = some ⟨b, o, none⟩ ∧ Hid (hs[i]? = some x) ∧
    w.cell? ⟨b, o + i * 2, none⟩ = some (.int .i64 x.holds) ∧ w.cell? ⟨b, o + i * 2 + 1, none⟩ = some (.int .i64 x.many) := by
  obtain ⟨a, c, hv, h1, h2, _, h3⟩ := h
  refine ⟨a, c, hv, h1, h2, fun i hi => ?_⟩
  have hx : hs[i]? = some hs[i] := by simp [hi]
  have key : ∀ j, j < 2 → ∀ u, (hs[i]).cells[j]? = some u → ∃ b o, a = some ⟨b, o, none⟩ ∧ w.cell? ⟨b, o + (i * 2 + j), none⟩ = some u := fun j hj u hu =>
    h3 (i * 2 + j) u (by rw [flatMap_at Kind.cells 2 (fun _ => rfl) hs i j _ hx hj]; exact hu)
  obtain ⟨b, o, rfl, c0⟩ := key 0 (by omega) _ rfl
  have c' : ∀ j, j < 2 → ∀ u, (hs[i]).cells[j]? = some u → w.cell? ⟨b, o + (i * 2 + j), none⟩ = some u := fun j hj u hu => by
    obtain ⟨b', o', e, hc⟩ := key j hj u hu
    cases e; exact hc
  exact ⟨b, o, hs[i], rfl, hx, c0, c' 1 (by omega) _ rfl⟩

theorem fill1_any (k : Kind) (w : World) :
    Calls Tryz.prog 128 #[.agg k.cells.toArray] w fun e w' => e = .returned (.bool (badKind k)) ∧ Ext w w' := by
  unfold Kind.cells
  go_enter Tryz.func128, Tryz.ntmps128
  go_wp2_with (go_at_call 104; refine (in_any _ _ _ _).mono ?_; rintro e w' ⟨rfl, rfl⟩)
  all_goals go_ret
  all_goals refine ⟨?_, (Ext.refl _).alloc _⟩
  all_goals simp [badKind, *]

set_option maxHeartbeats 400000 in
theorem indexFuncK (v : Value) (hs : List Kind) (w : World) (hv : KindsAt w v hs) :
    Calls Tryz.prog 173 #[v, .func (.func 128) #[] #[]] w (IdxPost w (hs.any badKind)) := by
  obtain ⟨a, c, rfl, h1, h2, h3⟩ := hv.open
  go_enter Tryz.func173, Tryz.ntmps173
  go_wp2
  go_loopw [8] (fun i wr => ∃ k : Nat, k ≤ hs.length ∧ i = .int .i64 k ∧ Hid ((hs.take k).any badKind = false) ∧ Ext w wr) (fun i _ => hs.length - (intOf i).toNat)
  case atStart => exact ⟨0, Nat.zero_le _, rfl, by simp [Hid], Ext.refl _⟩
  case round =>
    obtain ⟨k, hk, rfl, hno, hx⟩ := hrel
    by_cases hlt : k < hs.length
    · obtain ⟨b, o, x, rfl, hxk, c0, c1⟩ := h3 k hlt
      have d0 := hx.cell c0
      have d1 := hx.cell c1
      clear c0 c1 h3
      go_wp2_with (go_at_call 128; refine Calls.mono (fill1_any x _) ?_; rintro e w' ⟨rfl, hx'⟩)
      · go_ret
        exact ⟨⟨_, rfl, by rw [any_of_at badKind hxk.out (by assumption)]; simp⟩, hx.trans hx'⟩
      · go_roundw
        case rel => exact ⟨k + 1, by omega, by go_num, by unfold Hid; rw [any_take_succ badKind hxk.out, hno.out]; simpa using ‹badKind x = false›, hx.trans hx'⟩
        case measure => simp [intOf]; omega
    · go_wp2
      go_ret
      exact ⟨⟨_, rfl, by have := hno.out; rw [List.take_of_length_le (by omega)] at this; rw [this]; simp⟩, hx⟩

theorem containsFuncK (v : Value) (hs : List Kind) (w : World) (hv : KindsAt w v hs) :
    Calls Tryz.prog 127 #[v, .func (.func 128) #[] #[]] w fun e w' => e = .returned (.bool (hs.any badKind)) ∧ Ext w w' := by
  go_enter Tryz.func127, Tryz.ntmps127
  go_wp2_with (go_at_call 173; refine (indexFuncK v hs _ hv).mono ?_; rintro e w' ⟨⟨n, rfl, hn⟩, hx⟩)
  go_ret
  exact ⟨by simp, hx⟩

/-! ### The search -/
/-- What the variables out and least hold. -/
def FillAt (ob lb : Nat) (W : World) : Found → Prop
  | none => W.cell? ⟨ob, 0, none⟩ = some (.slice none 0 0) ∧ W.cell? ⟨lb, 0, none⟩ = some (.int .i64 0)
  | some (x, n) => ∃ a c, W.cell? ⟨ob, 0, none⟩ = some (.slice (some a) x.length c) ∧ W.cell? ⟨lb, 0, none⟩ = some (.int .i64 n) ∧ IntsOff (fun i => i = ob ∨ i = lb) W (.slice (some a) x.length c) x
structure FillEnv (ks : List Kind) (w0 : World) (kb ob lb sb : Nat) (kv : Value) (A : World) : Prop where
  ext : Ext w0 A
  k : A.cell? ⟨kb, 0, none⟩ = some kv
  s : A.cell? ⟨sb, 0, none⟩ = some (.func (.func 129) #[] #[.pointer (some ⟨kb, 0, none⟩), .pointer (some ⟨ob, 0, none⟩), .pointer (some ⟨lb, 0, none⟩), .pointer (some ⟨sb, 0, none⟩)])
  f0 : A.frozen? ⟨ob, 0, none⟩ = false
  f1 : A.frozen? ⟨lb, 0, none⟩ = false
def FillPost (ob lb : Nat) (A : World) (r : Found) (e : Ending) (w' : World) : Prop :=
  e = .returned (.tuple #[]) ∧ Touch (fun i => i = ob ∨ i = lb) A w' ∧ FillAt ob lb w' r
theorem FillAt.cells {ob lb : Nat} {W : World} {r : Found} (h : FillAt ob lb W r) : ∃ v n, W.cell? ⟨ob, 0, none⟩ = some v ∧ W.cell? ⟨lb, 0, none⟩ = some (.int .i64 n) := by
  cases r with
  | none => exact ⟨_, _, h.1, h.2⟩
  | some p => obtain ⟨x, n⟩ := p; obtain ⟨a, c, h1, h2, _⟩ := h; exact ⟨_, _, h1, h2⟩
theorem FillAt.ext {ob lb : Nat} {W W' : World} {r : Found} (h : FillAt ob lb W r) (k : Ext W W') : FillAt ob lb W' r := by
  cases r with
  | none => exact ⟨k.cell h.1, k.cell h.2⟩
  | some p => obtain ⟨x, n⟩ := p; obtain ⟨a, c, h1, h2, h3⟩ := h; exact ⟨a, c, k.cell h1, k.cell h2, h3.touch (Touch.of_ext k)⟩
end Go.Proofs.YtjbeiclfggjbmaaGreatDoor

/- Fillings: the search. -/
namespace Go.Proofs.YtjbeiclfggjbmaaGreatDoor
open Go.RowKit

theorem FillEnv.touch {ks : List Kind} {w0 : World} {kb ob lb sb : Nat} {kv : Value} {A B : World} (h : FillEnv ks w0 kb ob lb sb kv A) 
    (k : Touch (fun i => i = ob ∨ i = lb) A B) (m0 : w0.heap.size ≤ ob) (m1 : w0.heap.size ≤ lb) (n1 : kb ≠ ob) (n2 : kb ≠ lb) (n3 : sb ≠ ob) (n4 : sb ≠ lb) (fz : B.frozen? ⟨ob, 0, none⟩ = false ∧ B.frozen? ⟨lb, 0, none⟩ = false) : FillEnv ks w0 kb ob lb sb kv B :=
  ⟨Touch.ext h.ext k (fun i hi => by omega), k.cell h.k (by simp; omega), k.cell h.s (by simp; omega), fz.1, fz.2⟩

theorem fill_set {ob lb b o c' : Nat} {now : List Int} {cards : Int} {A : World} {acc : Found} (hA : FillAt ob lb A acc) (hN : IntsOff (fun i => i = ob ∨ i = lb) A (.slice (some ⟨b, o, none⟩) now.length c') now) (hob : ob ≠ lb)
    (f0 : A.frozen? ⟨ob, 0, none⟩ = false) (f1 : A.frozen? ⟨lb, 0, none⟩ = false) :
    FillPost ob lb A (some (now, cards)) (.returned (.tuple #[])) ((A.setCell ⟨ob, 0, none⟩ (.slice (some ⟨b, o, none⟩) now.length c')).setCell ⟨lb, 0, none⟩ (.int .i64 cards)) ∧
    ((A.setCell ⟨ob, 0, none⟩ (.slice (some ⟨b, o, none⟩) now.length c')).setCell ⟨lb, 0, none⟩ (.int .i64 cards)).frozen? ⟨ob, 0, none⟩ = false ∧
    ((A.setCell ⟨ob, 0, none⟩ (.slice (some ⟨b, o, none⟩) now.length c')).setCell ⟨lb, 0, none⟩ (.int .i64 cards)).frozen? ⟨lb, 0, none⟩ = false := by
  obtain ⟨v, n, q0, q1⟩ := hA.cells
  have hT : Touch (fun i => i = ob ∨ i = lb) A ((A.setCell ⟨ob, 0, none⟩ (.slice (some ⟨b, o, none⟩) now.length c')).setCell ⟨lb, 0, none⟩ (.int .i64 cards)) := ((Touch.refl _ A).trans (Touch.setCell _ (.inl rfl))).trans (Touch.setCell _ (.inr rfl))
  have hne : ¬ ob = lb := hob
  exact ⟨⟨rfl, hT, _, _, by go_simp, by go_simp, hN.touch hT⟩, by go_simp, by go_simp⟩

set_option maxRecDepth 100000 in
set_option maxHeartbeats 2000000 in
theorem fill_leaf (ks : List Kind) (w0 : World) (kb ob lb sb : Nat) (kv nowv : Value) (now : List Int) (left cards : Int) (A : World) (acc : Found)
    (hk : KindsAt w0 kv ks) (hE : FillEnv ks w0 kb ob lb sb kv A) (hA : FillAt ob lb A acc) (hN : IntsOff (fun i => i = ob ∨ i = lb) A nowv now) (hl : now.length = ks.length) (hpos : 1 ≤ ks.length) (hob : ob ≠ lb) :
    Calls Tryz.prog 129 #[nowv, .int .i64 left, .int .i64 cards, .pointer (some ⟨kb, 0, none⟩), .pointer (some ⟨ob, 0, none⟩), .pointer (some ⟨lb, 0, none⟩), .pointer (some ⟨sb, 0, none⟩)] A fun e w' =>
      FillPost ob lb A (fillGo [] now left cards acc) e w' ∧ w'.frozen? ⟨ob, 0, none⟩ = false ∧ w'.frozen? ⟨lb, 0, none⟩ = false := by
  obtain ⟨a, c, rfl, _⟩ := hk.open
  obtain ⟨a', c', rfl, h1, h2, h3⟩ := hN.1.open
  have e0 := hE.k
  have e1 := hE.f0
  have e2 := hE.f1
  have t1 : ((now.length : Int) == (ks.length : Int)) = true := by rw [beq_iff_eq]; omega
  have t2 : (now.length == ks.length) = true := by rw [beq_iff_eq]; omega
  obtain ⟨b, o, z, rfl, _, hz⟩ := h3 0 (by omega)
  have hbl := lt_of_cell hz
  clear h3 hz
  have hun : FillPost ob lb A acc (.returned (.tuple #[])) A := ⟨rfl, Touch.refl _ _, hA⟩
  have hset := fill_set (cards := cards) hA hN hob e1 e2
  have hnl := fun (w : World) (a : Option Addr) (n c : Nat) => Lib.run_eql_slice_nil (P := Tryz.prog) w 36 3 a n c 0 0 Tryz.underlying36
  have hne : ¬ ob = lb := hob
  clear hl
  by_cases h0 : left = 0
  · subst h0
    cases acc with
    | none =>
      rw [show fillGo [] now 0 cards none = some (now, cards) by simp [fillGo, fewerB]]
      obtain ⟨q0, q1⟩ := hA
      have HS := Lib.hid hset
      clear hset hun hE hN hk
      go_enter Tryz.func129, Tryz.ntmps129
      go_wp2
      refine bodyPost_ret (results_none rfl _ _ _) rfl ?_
      exact HS.out
    | some p =>
      obtain ⟨x, n⟩ := p
      obtain ⟨a1, c1, q0, q1, q2⟩ := hA
      by_cases hc : cards < n
      · rw [show fillGo [] now 0 cards (some (x, n)) = some (now, cards) by simp [fillGo, fewerB, hc]]
        have hd : decide (cards < n) = true := by simpa using hc
        have HS := Lib.hid hset
        clear hset hun hE hN hk q2
        go_enter Tryz.func129, Tryz.ntmps129
        go_wp2
        refine bodyPost_ret (results_none rfl _ _ _) rfl ?_
        exact HS.out
      · rw [show fillGo [] now 0 cards (some (x, n)) = some (x, n) by simp [fillGo, fewerB, hc]]
        have hd : decide (cards < n) = false := by simpa using hc
        have HS := Lib.hid (And.intro hun (And.intro e1 e2))
        clear hset hun hE hN hk q2
        go_enter Tryz.func129, Tryz.ntmps129
        go_wp2
        refine bodyPost_ret (results_none rfl _ _ _) rfl ?_
        exact HS.out
  · rw [show fillGo [] now left cards acc = acc by simp [fillGo, h0]]
    have hd : (left == 0) = false := by simpa using h0
    have HS := Lib.hid (And.intro hun (And.intro e1 e2))
    clear hset hun hE hN hk hA
    go_enter Tryz.func129, Tryz.ntmps129
    go_wp2
    refine bodyPost_ret (results_none rfl _ _ _) rfl ?_
    exact HS.out
end Go.Proofs.YtjbeiclfggjbmaaGreatDoor
