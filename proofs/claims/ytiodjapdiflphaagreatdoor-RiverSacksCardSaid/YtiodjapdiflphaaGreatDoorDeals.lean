/- Deals: plain facts; the closure that makes the iterator. -/
import Derived.Test.YtiodjapdiflphaaGreatDoorGood
import Derived.Test.YtiodjapdiflphaaGreatDoorNode
import Derived.Test.YtiodjapdiflphaaGreatDoorLics
import Derived.Test.YtiodjapdiflphaaGreatDoorTaks
namespace Go.Proofs.YtiodjapdiflphaaGreatDoor
open Go.RowKit
/-- What comes of licence n for the next take. -/
def dealOn (b : Book) (l : List Licence) (t : Take) (ts : List Take) (now : DealS) (used : List Int) (n : Nat) : List DealS :=
 if dealAt b l t used n then dealsFrom b l ts (now.1 ++ [(n : Int)], now.2) (used.set n (used.getD n 0 + t.many)) else []
theorem dealsFrom_cons (b : Book) (l : List Licence) (t : Take) (ts : List Take) (now : DealS) (used : List Int) :
  dealsFrom b l (t :: ts) now used = dealsFrom b l ts (now.1 ++ [-1], now.2 + t.many) used ++ (List.range l.length).flatMap (dealOn b l t ts now used) := rfl
def dealCnt (b : Book) (l : List Licence) (t : Take) (ts : List Take) (now : DealS) (used : List Int) (n : Nat) : Nat :=
 (dealsFrom b l ts (now.1 ++ [-1], now.2 + t.many) used).length + ((List.range n).flatMap (dealOn b l t ts now used)).length
theorem dealCnt_succ (b : Book) (l : List Licence) (t : Take) (ts : List Take) (now : DealS) (used : List Int) (n : Nat) : dealCnt b l t ts now used (n + 1) = dealCnt b l t ts now used n + (dealOn b l t ts now used n).length := by
 unfold dealCnt; rw [List.range_succ, List.flatMap_append, List.length_append]; simp; omega
theorem dealCnt_all (b : Book) (l : List Licence) (t : Take) (ts : List Take) (now : DealS) (used : List Int) : dealCnt b l t ts now used l.length = (dealsFrom b l (t :: ts) now used).length := by
 rw [dealsFrom_cons, List.length_append]; rfl
theorem range_split {α : Type} (g : Nat → List α) {f n : Nat} (hf : f < n) : ∃ s, (List.range n).flatMap g = (List.range f).flatMap g ++ (g f ++ s) := by
 induction n with
 | zero => omega
 | succ n ih =>
  rw [List.range_succ, List.flatMap_append]
  by_cases e : f = n
  ·subst e; exact ⟨[], by simp⟩
  ·obtain ⟨s, hs⟩ := ih (by omega)
   exact ⟨s ++ g n, by rw [hs]; simp⟩
/-- The deals without a licence come first. -/
theorem deal_none {b : Book} {l : List Licence} {t : Take} {ts : List Take} {now : DealS} {used : List Int} {i : Nat} {z : DealS} (h : (dealsFrom b l ts (now.1 ++ [-1], now.2 + t.many) used)[i]? = some z) : (dealsFrom b l (t :: ts) now used)[i]? = some z := by
 rw [dealsFrom_cons, List.getElem?_append_left (List.getElem?_eq_some_iff.1 h).1]; exact h
theorem deal_some {b : Book} {l : List Licence} {t : Take} {ts : List Take} {now : DealS} {used : List Int} {n i : Nat} {z : DealS} (hn : n < l.length) (h : (dealOn b l t ts now used n)[i]? = some z) : (dealsFrom b l (t :: ts) now used)[dealCnt b l t ts now used n + i]? = some z := by
 obtain ⟨s, hs⟩ := range_split (dealOn b l t ts now used) hn
 have hi := (List.getElem?_eq_some_iff.1 h).1
 unfold dealCnt
 rw [dealsFrom_cons, Nat.add_assoc, List.getElem?_append_right (by omega), hs, Nat.add_sub_cancel_left, List.getElem?_append_right (by omega), Nat.add_sub_cancel_left, List.getElem?_append_left hi]
 exact h
theorem dealsFrom_ne (b : Book) (l : List Licence) : ∀ (ts : List Take) (now : DealS) (used : List Int), dealsFrom b l ts now used ≠ []
 | [], now, used => by simp [dealsFrom]
 | t :: ts, now, used => by
  rw [dealsFrom_cons]
  intro h
  exact dealsFrom_ne b l ts _ _ (List.append_eq_nil_iff.1 h).1
theorem dealOf_first {b : Book} {l : List Licence} {ts : List Take} {y : DealS} (h : firstBest ltD (dealsOf b l ts) = some y) : dealOf b l ts = y := by
 unfold dealOf
 show (firstBest ltD (dealsOf b l ts)).getD ([], 0) = y
 rw [h]; rfl
/-! ### The iterator's closure -/
def DealsPost (bv lv tv : Value) (years : Int) (rv : Value) (w : World) (e : Ending) (w' : World) : Prop :=
 ∃ bb lb tb, e = .returned (.func (.func 104) #[] #[.pointer (some ⟨tb, 0, none⟩), .pointer (some ⟨lb, 0, none⟩), .pointer (some ⟨bb, 0, none⟩)]) ∧ Ext w w' ∧ w.heap.size ≤ bb ∧ w.heap.size ≤ lb ∧ w.heap.size ≤ tb ∧ bv = .agg #[.int .i64 years, rv] ∧
  w'.cell? ⟨bb, 0, none⟩ = some (.int .i64 years) ∧ w'.cell? ⟨bb, 1, none⟩ = some rv ∧ w'.cell? ⟨lb, 0, none⟩ = some lv ∧ w'.cell? ⟨tb, 0, none⟩ = some tv
theorem deals_any (years : Int) (rv lv tv : Value) (w : World) (hr : IsSlice rv) (hl : IsSlice lv) (ht : IsSlice tv) :
  Calls Tryz.prog 67 #[.agg #[.int .i64 years, rv], lv, tv] w (DealsPost (.agg #[.int .i64 years, rv]) lv tv years rv w) := by
 obtain ⟨ra, rn, rc, rfl⟩ := hr
 obtain ⟨la, ln, lc, rfl⟩ := hl
 obtain ⟨ta, tn, tc, rfl⟩ := ht
 go_enter Tryz.func67, Tryz.ntmps67
 go_wp2
 go_ret
 exact ⟨_, _, _, rfl, (((Ext.refl w).alloc _).alloc _).alloc _, Nat.le_refl _, by simp, (by show w.heap.size ≤ w.heap.size + 1 + 1; omega), rfl, by go_simp, by go_simp, by go_simp, by go_simp⟩
theorem enters_deals1 : ∀ args w, (callFunc 104 args).run Tryz.prog w = .ok (.enter 104 args) w := enters_of Tryz.func104 (by kernel_rfl) rfl
end Go.Proofs.YtiodjapdiflphaaGreatDoor
/- The search of the deals: what it leans on; the leaf. -/
namespace Go.Proofs.YtiodjapdiflphaaGreatDoor
open Go.RowKit
/-- The variables of the search, and what the caller keeps. -/
structure DI (b : Book) (rv lv tv : Value) (w0 : World) (bb lb tb yb cb ly : Nat) (J : (Nat → Prop) → World → Prop) (O : Nat → Prop) (A : World) : Prop where
 ext : Ext w0 A
 b0 : A.cell? ⟨bb, 0, none⟩ = some (.int .i64 b.years)
 b1 : A.cell? ⟨bb, 1, none⟩ = some rv
 l0 : A.cell? ⟨lb, 0, none⟩ = some lv
 t0 : A.cell? ⟨tb, 0, none⟩ = some tv
 y : A.cell? ⟨yb, 0, none⟩ = some (.func (.yield ly) #[] #[])
 c : A.cell? ⟨cb, 0, none⟩ = some (.func (.func 105) #[] #[.pointer (some ⟨tb, 0, none⟩), .pointer (some ⟨yb, 0, none⟩), .pointer (some ⟨cb, 0, none⟩), .pointer (some ⟨lb, 0, none⟩), .pointer (some ⟨bb, 0, none⟩)])
 og : ∀ i, O i → w0.heap.size ≤ i
 olt : ∀ i, O i → i < A.heap.size
 ob : ¬ O bb
 ol : ¬ O lb
 ot : ¬ O tb
 oy : ¬ O yb
 oc : ¬ O cb
 j : J O A
theorem DI.ext' {b : Book} {rv lv tv : Value} {w0 : World} {bb lb tb yb cb ly n : Nat} {J : (Nat → Prop) → World → Prop} {O : Nat → Prop} {A B : World} (h : DI b rv lv tv w0 bb lb tb yb cb ly J O A) (hJ : ∀ O, Stable n (J O)) (k : Ext A B) : DI b rv lv tv w0 bb lb tb yb cb ly J O B :=
 ⟨h.ext.trans k, k.cell h.b0, k.cell h.b1, k.cell h.l0, k.cell h.t0, k.cell h.y, k.cell h.c, h.og, fun i hi => Nat.lt_of_lt_of_le (h.olt i hi) k.size, h.ob, h.ol, h.ot, h.oy, h.oc, (hJ O).out' h.j k⟩
theorem DI.post {b : Book} {rv lv tv : Value} {w0 : World} {bb lb tb yb cb ly : Nat} {J J' : (Nat → Prop) → World → Prop} {O O' : Nat → Prop} {A B : World} (h : DI b rv lv tv w0 bb lb tb yb cb ly J O A) (k : Touch O A B) (ho : ∀ i, O' i → (O i ∨ A.heap.size ≤ i) ∧ i < B.heap.size) (hj : J' O' B) : DI b rv lv tv w0 bb lb tb yb cb ly J' O' B := by
 have a1 := lt_of_cell h.b0
 have a2 := lt_of_cell h.l0
 have a3 := lt_of_cell h.t0
 have a4 := lt_of_cell h.y
 have a5 := lt_of_cell h.c
 have a0 := h.ext.size
 simp only at a1 a2 a3 a4 a5
 have no : ∀ j, ¬ O j → j < A.heap.size → ¬ O' j := fun j h1 h2 h3 => (ho j h3).1.elim h1 (fun h4 => by omega)
 exact ⟨k.ext h.ext h.og, k.cell h.b0 h.ob, k.cell h.b1 h.ob, k.cell h.l0 h.ol, k.cell h.t0 h.ot, k.cell h.y h.oy, k.cell h.c h.oc,
  fun i hi => (ho i hi).1.elim (h.og i) (fun hi => by omega), fun i hi => (ho i hi).2, no _ h.ob a1, no _ h.ol a2, no _ h.ot a3, no _ h.oy a4, no _ h.oc a5, hj⟩
theorem DealIn.out {O O' : Nat → Prop} {A B : World} {x : DealS} {v : Value} (h : DealIn O A x v) (k : Touch O A B) (ho : ∀ i, O' i → O i ∨ A.heap.size ≤ i) : DealIn O' B x v := by
 obtain ⟨sv, h1, h2, h3⟩ := h
 have hs := k.size
 exact ⟨sv, h1, RowAt.touch h2 (k.mono (fun i hi => .inl hi)) h3, h3.less (fun i hi => by rcases hi with hi | hi; exact ho i hi; exact .inr (by omega))⟩
set_option maxRecDepth 100000 in
set_option maxHeartbeats 4000000 in
theorem deal_leaf (b : Book) (rv lv nv uv : Value) (now : DealS) (ta : Option Addr) (tc : Nat) (w0 : World) (bb lb tb yb cb ly B0 k : Nat) (J : Nat → (Nat → Prop) → World → Prop) (Jx : World → Prop) (O : Nat → Prop) (A : World)
  (hJ : ∀ k O, Stable B0 (J k O)) (hx : DealIn O A now nv) (hu : IsSlice uv) (hT : DI b rv lv (.slice ta now.1.length tc) w0 bb lb tb yb cb ly (J k) O A) (hAB : B0 ≤ A.heap.size)
  (hY : ∀ v A1, J k O A1 → DealIn O A1 now v → B0 ≤ A1.heap.size → (∀ i, O i → i < A1.heap.size) → YieldAt Fence.wide 0 Tryz.prog ly #[v] A1 (YRes O (J (k + 1)) Jx A1)) :
  CallsIn Fence.wide 0 Tryz.prog 105 #[nv, uv, .pointer (some ⟨tb, 0, none⟩), .pointer (some ⟨yb, 0, none⟩), .pointer (some ⟨cb, 0, none⟩), .pointer (some ⟨lb, 0, none⟩), .pointer (some ⟨bb, 0, none⟩)] A (YRes O (J (k + 1)) Jx A) := by
 have hx' := hx
 obtain ⟨sv, rfl, h1, h2⟩ := hx'
 obtain ⟨sa, sc, rfl, _⟩ := h1.open
 obtain ⟨ua, un, uc, rfl⟩ := hu
 have hxa : Ext A (A.alloc (.cells #[.slice sa now.1.length sc, .int .i64 now.2] 131)) := (Ext.refl A).alloc _
 have hTa := hT.ext' (hJ k) hxa
 obtain ⟨fn, tmps, assign, body, hy, hR⟩ := hY (.agg #[.slice sa now.1.length sc, .int .i64 now.2]) _ hTa.j (hx.out (Touch.of_ext hxa) (fun i hi => .inl hi)) (Nat.le_trans hAB hxa.size) hTa.olt
 have e1 := hTa.t0
 have e2 := hTa.y
 have e3 := hT.t0
 have e4 := hT.y
 have HXA := Lib.hid hxa
 have hmix : Tryz.prog.follows .mixedOrders = true := by kernel_rfl
 clear hY hx hT hTa hxa h1 h2
 refine callsIn_wide.2 ?_
 go_enter Tryz.func105, Tryz.ntmps105
 go_upto_region 3 with fail
 refine (wpIn_wide (n := 0)).1 ?_
 gi_wp2_with (refine RoundIn.mono hR ?_; rintro e w2 ⟨b', O', rfl, ht, hpost⟩)
 have HP := Lib.hid hpost
 clear hpost
 go_wp2
 go_ret
 exact ⟨b', O', rfl, Touch.of_new ((Touch.of_ext HXA.out).trans ht) (fun i hi _ => hi), fun i hi => by have h1 := HP.out.1 i hi; have h2 := HXA.out.size; exact ⟨h1.1.imp id (fun h => by omega), h1.2⟩, HP.out.2.1, HP.out.2.2⟩
end Go.Proofs.YtiodjapdiflphaaGreatDoor
/- Deal, given the contract of the iterator over deals. -/
namespace Go.Proofs.YtiodjapdiflphaaGreatDoor
open Go.RowKit
/-- The iterator over deals, wherever its variables lie. -/
def DealsIterP (b : Book) (l : List Licence) (ts : List Take) (rv lv tv : Value) (w0 : World) : Prop := ∀ (W : World) (O0 : Nat → Prop) (bb lb tb : Nat), Ext w0 W → (∀ i, O0 i → w0.heap.size ≤ i) → ¬ O0 bb → ¬ O0 lb → ¬ O0 tb →
 W.cell? ⟨bb, 0, none⟩ = some (.int .i64 b.years) → W.cell? ⟨bb, 1, none⟩ = some rv → W.cell? ⟨lb, 0, none⟩ = some lv → W.cell? ⟨tb, 0, none⟩ = some tv →
 Iter Tryz.prog 104 #[.pointer (some ⟨tb, 0, none⟩), .pointer (some ⟨lb, 0, none⟩), .pointer (some ⟨bb, 0, none⟩)] DealIn (dealsOf b l ts) O0 W
def dealArg (b : Book) (l : List Licence) (ts : List Take) : Bool := isBookB b && areLicencesB b l && areTakesB b ts
def DealRes (b : Book) (l : List Licence) (ts : List Take) (w : World) (e : Ending) (w' : World) : Prop :=
 ∃ v, e = .returned (.tuple #[v, .int .i64 (if dealArg b l ts then (dealOf b l ts).2 else 0), .int .i64 (if dealArg b l ts then 0 else 2)]) ∧ Ext w w' ∧ IntsAt w' v (if dealArg b l ts then (dealOf b l ts).1 else [])
set_option maxRecDepth 100000 in
set_option maxHeartbeats 8000000 in
theorem Deal_of (bv lv tv : Value) (b : Book) (l : List Licence) (ts : List Take) (w : World) (hb : BookAt w bv b) (hl : RowOf licC w lv l) (ht : RowOf takC w tv ts) (hit : ∀ rv w1, bv = .agg #[.int .i64 b.years, rv] → Ext w w1 → dealArg b l ts = true → DealsIterP b l ts rv lv tv w1) :
  Calls Tryz.prog 28 #[bv, lv, tv] w (DealRes b l ts w) := by
 have HB := Lib.hid (fun w1 (hx : Ext w w1) => isBook_any bv b w1 (hb.ext hx))
 obtain ⟨rv, rfl, hr⟩ := hb
 have HLI := Lib.hid (fun w1 (hx : Ext w w1) (h : isBookB b = true) => areLicences_any b rv lv l w1 h (hr.ext hx) (RowOf.ext hl hx))
 have HTA := Lib.hid (fun w1 (hx : Ext w w1) (h : isBookB b = true) => areTakes_any b rv tv ts w1 h (hr.ext hx) (RowOf.ext ht hx))
 have HIT := Lib.hid (fun w1 (hx : Ext w w1) (h : dealArg b l ts = true) => hit rv w1 rfl hx h)
 obtain ⟨ra, rc, rfl, _⟩ := hr.open
 obtain ⟨la, lc, rfl, _⟩ := RowAt.open hl
 obtain ⟨ta, tc, rfl, _⟩ := RowAt.open ht
 have HDE := Lib.hid (fun w1 => deals_any b.years (.slice ra b.rivers.length rc) (.slice la l.length lc) (.slice ta ts.length tc) w1 ⟨_, _, _, rfl⟩ ⟨_, _, _, rfl⟩ ⟨_, _, _, rfl⟩)
 have hx0 : Ext w (w.alloc (.cells #[.int .i64 b.years, .slice ra b.rivers.length rc] 24)) := (Ext.refl w).alloc _
 have HX0 := Lib.hid hx0
 have HS := Lib.hid (fun W (h : Ext (w.alloc (.cells #[.int .i64 b.years, .slice ra b.rivers.length rc] 24)) W) => (⟨h.cell (by go_simp), h.cell (by go_simp)⟩ : W.cell? ⟨w.heap.size, 0, none⟩ = some (.int .i64 b.years) ∧ W.cell? ⟨w.heap.size, 1, none⟩ = some (.slice ra b.rivers.length rc)))
 have hy := Ext.refl (w.alloc (.cells #[.int .i64 b.years, .slice ra b.rivers.length rc] 24))
 have hno : dealArg b l ts = false → ∀ w', Ext w w' → DealRes b l ts w (.returned (.tuple #[.slice none 0 0, .int .i64 0, .int .i64 2])) w' := fun h w' hx => ⟨_, by rw [h]; rfl, hx, by rw [h]; exact IntsAt.nil _⟩
 have hyes : dealArg b l ts = true → ∀ v w', Ext w w' → IntsAt w' v (dealOf b l ts).1 → DealRes b l ts w (.returned (.tuple #[v, .int .i64 (dealOf b l ts).2, .int .i64 0])) w' := fun h v w' hx hp => ⟨_, by rw [h]; rfl, hx, by rw [h]; exact hp⟩
 have HNO := Lib.hid hno
 have HYES := Lib.hid hyes
 have hmix : Tryz.prog.follows .mixedOrders = true := by kernel_rfl
 clear hr hl ht hit hx0 hno hyes
 cases h1 : isBookB b with
 | false =>
  rw [h1] at HB
  have HF := Lib.hid (HNO.out (by unfold dealArg; rw [h1]; rfl))
  clear h1
  go_enter Tryz.func28, Tryz.ntmps28
  go_wp2_with (first | (go_at_call 46; refine (HB.out _ (HX0.out.trans hy)).mono ?_; rintro e w1 ⟨rfl, hx1⟩; replace hy := hy.trans hx1; clear hx1; obtain ⟨z0, z1⟩ := HS.out _ hy))
  refine bodyPost_ret (by simp [results, Tryz.results28, go_sem]; rfl) rfl ?_
  exact HF.out _ (HX0.out.trans hy)
 | true =>
  rw [h1] at HB
  have HL2 := Lib.hid (fun w1 hx => HLI.out w1 hx h1)
  have HT2 := Lib.hid (fun w1 hx => HTA.out w1 hx h1)
  cases h2 : areLicencesB b l with
  | false =>
   rw [h2] at HL2
   have HF := Lib.hid (HNO.out (by unfold dealArg; rw [h1, h2]; rfl))
   clear h1 h2
   go_enter Tryz.func28, Tryz.ntmps28
   go_wp2_with (first | (go_at_call 46; refine (HB.out _ (HX0.out.trans hy)).mono ?_; rintro e w1 ⟨rfl, hx1⟩; replace hy := hy.trans hx1; clear hx1; obtain ⟨z0, z1⟩ := HS.out _ hy) | (go_at_call 64; refine (HL2.out _ (HX0.out.trans hy)).mono ?_; rintro e w2 ⟨rfl, hx1⟩; replace hy := hy.trans hx1; clear hx1 z0 z1; obtain ⟨z0, z1⟩ := HS.out _ hy))
   refine bodyPost_ret (by simp [results, Tryz.results28, go_sem]; rfl) rfl ?_
   exact HF.out _ (HX0.out.trans hy)
  | true =>
   rw [h2] at HL2
   cases h3 : areTakesB b ts with
   | false =>
    rw [h3] at HT2
    have HF := Lib.hid (HNO.out (by unfold dealArg; rw [h1, h2, h3]; rfl))
    clear h1 h2 h3
    go_enter Tryz.func28, Tryz.ntmps28
    go_wp2_with (first | (go_at_call 46; refine (HB.out _ (HX0.out.trans hy)).mono ?_; rintro e w1 ⟨rfl, hx1⟩; replace hy := hy.trans hx1; clear hx1; obtain ⟨z0, z1⟩ := HS.out _ hy) | (go_at_call 64; refine (HL2.out _ (HX0.out.trans hy)).mono ?_; rintro e w2 ⟨rfl, hx1⟩; replace hy := hy.trans hx1; clear hx1 z0 z1; obtain ⟨z0, z1⟩ := HS.out _ hy) | (go_at_call 65; refine (HT2.out _ (HX0.out.trans hy)).mono ?_; rintro e w3 ⟨rfl, hx1⟩; replace hy := hy.trans hx1; clear hx1 z0 z1; obtain ⟨z0, z1⟩ := HS.out _ hy))
    refine bodyPost_ret (by simp [results, Tryz.results28, go_sem]; rfl) rfl ?_
    exact HF.out _ (HX0.out.trans hy)
   | true =>
    rw [h3] at HT2
    have harg : dealArg b l ts = true := by unfold dealArg; rw [h1, h2, h3]; rfl
    have HF := Lib.hid (HYES.out harg)
    have HI2 := Lib.hid (fun w1 hx => HIT.out w1 hx harg)
    clear h1 h2 h3 harg
    go_enter Tryz.func28, Tryz.ntmps28
    go_upto_region 4 with (first | (go_at_call 46; refine (HB.out _ (HX0.out.trans hy)).mono ?_; rintro e w1 ⟨rfl, hx1⟩; replace hy := hy.trans hx1; clear hx1; obtain ⟨z0, z1⟩ := HS.out _ hy) | (go_at_call 64; refine (HL2.out _ (HX0.out.trans hy)).mono ?_; rintro e w2 ⟨rfl, hx1⟩; replace hy := hy.trans hx1; clear hx1 z0 z1; obtain ⟨z0, z1⟩ := HS.out _ hy) | (go_at_call 65; refine (HT2.out _ (HX0.out.trans hy)).mono ?_; rintro e w3 ⟨rfl, hx1⟩; replace hy := hy.trans hx1; clear hx1 z0 z1; obtain ⟨z0, z1⟩ := HS.out _ hy) | (go_at_call 67; refine (HDE.out _).mono ?_; rintro e w4 ⟨b2, l2, t2, rfl, hx4, q1, q2, q3, _, k0, k1, k2, k3⟩; have HXD := Lib.hid ((HX0.out.trans hy).trans hx4)) | (go_at_call 66; refine (best_deal (dealsOf b l ts) _ _ _ enters_deals1 ?_ (dealsFrom_ne _ _ _ _ _)).mono ?_; (· intro W hxW hzW; exact HI2.out w4 HXD.out W _ b2 l2 t2 hxW (fun i hi => by omega) (fun h => by have := lt_of_cell k0; simp only at this; omega) (fun h => by have := lt_of_cell k2; simp only at this; omega) (fun h => by have := lt_of_cell k3; simp only at this; omega) (hxW.cell k0) (hxW.cell k1) (hxW.cell k2) (hxW.cell k3)); rintro e w5 ⟨y, sv, hfy, rfl, hx5, hin⟩; have HFY := Lib.hid (dealOf_first hfy); have HIN := Lib.hid hin; obtain ⟨pa, pc, rfl, _⟩ := hin.open; clear hfy hin))
    have hx55 := HXD.out.trans hx5
    clear hy z0 z1 k0 k1 k2 k3
    go_quiet (fail)
    go_wp2
    refine bodyPost_ret (by simp [results, Tryz.results28, go_sem]; rfl) rfl ?_
    have hfin := fun n => HF.out (.slice pa y.1.length pc) _ ((hx55.alloc (.cells #[.slice pa y.1.length pc, .int .i64 y.2] 131)).drewN n) (by rw [HFY.out]; exact HIN.out.ext (((Ext.refl _).alloc _).drewN _))
    simp only [HFY.out] at hfin
    exact hfin _
end Go.Proofs.YtiodjapdiflphaaGreatDoor
/- The iterator over deals, given its search. -/
namespace Go.Proofs.YtiodjapdiflphaaGreatDoor
open Go.RowKit
/-- What the search does when these takes are left. -/
def DealCall (b : Book) (l : List Licence) (all : List Take) (rv lv tv : Value) (w0 : World) (bb lb tb yb cb ly B0 : Nat) (Jx : World → Prop) (rest : List Take) : Prop :=
 ∀ (k : Nat) (J : Nat → (Nat → Prop) → World → Prop) (O : Nat → Prop) (now : DealS) (used : List Int) (nv uv : Value) (A : World), (∀ k O, Stable B0 (J k O)) → all.drop now.1.length = rest → now.1.length ≤ all.length → used.length = l.length →
  (0 ≤ now.2 ∧ now.2 ≤ 100 * now.1.length) → (∀ u, u ∈ used → 0 ≤ u ∧ u ≤ 100 * now.1.length) → DealIn O A now nv → IntsAt A uv used → OffV (fun i => O i ∨ A.heap.size ≤ i) uv → DI b rv lv tv w0 bb lb tb yb cb ly (J k) O A → B0 ≤ A.heap.size → w0.heap.size ≤ B0 →
  (∀ (i : Nat) (z : DealS) (v : Value) (A1 : World) (O1 : Nat → Prop), (dealsFrom b l rest now used)[i]? = some z → J (k + i) O1 A1 → DealIn O1 A1 z v → B0 ≤ A1.heap.size → (∀ i, O1 i → i < A1.heap.size) → YieldAt Fence.wide 0 Tryz.prog ly #[v] A1 (YRes O1 (J (k + i + 1)) Jx A1)) →
  CallsIn Fence.wide 0 Tryz.prog 105 #[nv, uv, .pointer (some ⟨tb, 0, none⟩), .pointer (some ⟨yb, 0, none⟩), .pointer (some ⟨cb, 0, none⟩), .pointer (some ⟨lb, 0, none⟩), .pointer (some ⟨bb, 0, none⟩)] A (YRes O (J (k + (dealsFrom b l rest now used).length)) Jx A)
theorem deal_zero (b : Book) (l : List Licence) (all : List Take) (rv lv : Value) (ta : Option Addr) (tc : Nat) (w0 : World) (bb lb tb yb cb ly B0 : Nat) (Jx : World → Prop) : DealCall b l all rv lv (.slice ta all.length tc) w0 bb lb tb yb cb ly B0 Jx [] := by
 intro k J O now used nv uv A hJ hr hl hu hb hub hx hi ho hT hAB h0B hY
 have hlen : now.1.length = all.length := by
  have := congrArg List.length hr
  rw [List.length_drop, List.length_nil] at this
  omega
 rw [← hlen] at hT
 refine deal_leaf b rv lv nv uv now ta tc w0 bb lb tb yb cb ly B0 k J Jx O A hJ hx (by obtain ⟨_, _, rfl, _⟩ := hi.open; exact ⟨_, _, _, rfl⟩) hT hAB (fun v A1 h1 h2 h3 h4 => hY 0 now v A1 O rfl h1 h2 h3 h4)
theorem info_int : (Tryz.prog.info? 3).map (fun i => (i.zero, i.size, i.bytes)) = some (some (.int .i64 0), 1, 8) := by kernel_rfl
theorem madeCells_int (n : Nat) : madeCells (Value.int .i64 0).cells (n * 1) = ((List.replicate n (0 : Int)).map (Value.int .i64)).toArray := by
 apply Array.ext
 ·simp [size_madeCells]
 ·intro i h1 h2
  simp [madeCells]
  show (#[Value.int .i64 0] : Array Value)[i % 1]! = _
  rw [Nat.mod_one]
  rfl
set_option maxRecDepth 100000 in
set_option maxHeartbeats 4000000 in
theorem deals_iter (b : Book) (l : List Licence) (ts : List Take) (rv lv tv : Value) (w0 : World) (hls : ∃ a c, lv = .slice a l.length c) (hll : l.length ≤ 4)
  (hall : ∀ (bb lb tb yb cb ly B0 : Nat) (Jx : World → Prop), Stable B0 Jx → DealCall b l ts rv lv tv w0 bb lb tb yb cb ly B0 Jx ts) : DealsIterP b l ts rv lv tv w0 := by
 intro W O0 bb lb tb hxW hO0 nb nl nt b0 b1 l0 t0 ly J Jx hJ hJx hY h0 hO
 obtain ⟨la, lc, rfl⟩ := hls
 have hmix : Tryz.prog.follows .mixedOrders = true := by kernel_rfl
 obtain ⟨Aw, hAw⟩ : ∃ Aw, Aw = ((W.alloc (.cells #[.func (.yield ly) #[] #[]] 180)).alloc (.cells #[.func (.func 105) #[] #[.pointer (some ⟨tb, 0, none⟩), .pointer (some ⟨W.heap.size, 0, none⟩), .pointer (some ⟨W.heap.size + 1, 0, none⟩), .pointer (some ⟨lb, 0, none⟩), .pointer (some ⟨bb, 0, none⟩)]] 181)) := ⟨_, rfl⟩
 have hxa : Ext W Aw := by rw [hAw]; exact ((Ext.refl W).alloc _).alloc _
 have hza : Aw.heap.size = W.heap.size + 2 := by rw [hAw]; simp
 have HS3 := Lib.hid (fun A (h : Ext Aw A) => (⟨h.cell (by rw [hAw]; go_simp), (hxa.trans h).cell l0⟩ : (fun w' => w'.cell? ⟨W.heap.size + 1, 0, none⟩ = some (.func (.func 105) #[] #[.pointer (some ⟨tb, 0, none⟩), .pointer (some ⟨W.heap.size, 0, none⟩), .pointer (some ⟨W.heap.size + 1, 0, none⟩), .pointer (some ⟨lb, 0, none⟩), .pointer (some ⟨bb, 0, none⟩)]) ∧ w'.cell? ⟨lb, 0, none⟩ = some (.slice la l.length lc)) A))
 have HYB := Lib.hid (fun A (h : Ext Aw A) => (h.cell (by rw [hAw]; go_simp) : A.cell? ⟨W.heap.size, 0, none⟩ = some (.func (.yield ly) #[] #[])))
 have HJ0 := Lib.hid h0
 have HNO := Lib.hid (fun (j : Nat) (hj : W.heap.size ≤ j) => (fun h => by have := hO j h; omega : ¬ O0 j))
 have HNL := Lib.hid nl
 have HALL := Lib.hid (fun (uv : Value) (A : World) (h : Ext Aw A) (hi : IntsAt A uv (List.replicate l.length 0)) (hof : OffV (fun i => O0 i ∨ A.heap.size ≤ i) uv) => (by
  have h3 := HS3.out A h
  have hwA := hxa.trans h
  have h5 := hall bb lb tb W.heap.size (W.heap.size + 1) ly W.heap.size Jx hJx 0 J O0 ([], 0) (List.replicate l.length 0) (.agg #[.slice none 0 0, .int .i64 0]) uv A hJ rfl (Nat.zero_le _) (by simp) (by simp) (fun u hu => by rw [List.eq_of_mem_replicate hu]; simp) ⟨_, rfl, IntsAt.nil _, OffV.nil _⟩ hi hof
   ⟨hxW.trans hwA, hwA.cell b0, hwA.cell b1, hwA.cell l0, hwA.cell t0, HYB.out A h, h3.1, hO0, fun i hi => Nat.lt_of_lt_of_le (hO i hi) hwA.size, nb, nl, nt, HNO.out _ (Nat.le_refl _), HNO.out _ (by omega), (hJ 0 O0).out' HJ0.out hwA⟩ hwA.size hxW.size
   (fun i z v A1 O1 hz hj hst hsz ho => by rw [Nat.zero_add] at hj ⊢; exact hY i z v A1 O1 hj hz hst hsz ho)
  rw [Nat.zero_add] at h5
  exact h5 : CallsIn Fence.wide 0 Tryz.prog 105 #[.agg #[.slice none 0 0, .int .i64 0], uv, .pointer (some ⟨tb, 0, none⟩), .pointer (some ⟨W.heap.size, 0, none⟩), .pointer (some ⟨W.heap.size + 1, 0, none⟩), .pointer (some ⟨lb, 0, none⟩), .pointer (some ⟨bb, 0, none⟩)] A (YRes O0 (J (dealsOf b l ts).length) Jx A)))
 obtain ⟨ii, hi1, hi2, hi3, hi4⟩ := info_parts info_int
 have HMK := Lib.hid (fun (w1 : World) (hb : Aw.heap.size ≤ w1.heap.size) => run_makeSlice_full (P := Tryz.prog) (w := w1) Aw.heap.size 63 3 ii (.int .i64 0) 1 Tryz.underlying63 hi1 hi2 hi3 .i64 .i64 l.length (by omega) (by rw [hi4]; omega) (by unfold maxLen; omega) hb)
 clear hza
 clear hall hY hJ h0 b0 b1 l0 t0 nb nl nt hi1 hi2 hi3 hi4
 simp only [List.append_toArray, List.cons_append, List.nil_append]
 refine callsIn_wide.2 ?_
 go_enter Tryz.func104, Tryz.ntmps104
 go_upto_region 3 with fail
 rw [← hAw]
 clear hAw
 refine wp_region_held_drew (S := (fun w' => w'.cell? ⟨W.heap.size + 1, 0, none⟩ = some (.func (.func 105) #[] #[.pointer (some ⟨tb, 0, none⟩), .pointer (some ⟨W.heap.size, 0, none⟩), .pointer (some ⟨W.heap.size + 1, 0, none⟩), .pointer (some ⟨lb, 0, none⟩), .pointer (some ⟨bb, 0, none⟩)]) ∧ w'.cell? ⟨lb, 0, none⟩ = some (.slice la l.length lc))) (by kernel_rfl) ?_ (fun hHeld => ?_)
 ·exact HS3.out _ ((Ext.refl _).drew)
 refine hTk (i := 0) (d := some 7) (v := ?_) (fun o ho => ?_) hHeld ?_
 rotate_left
 ·simp only [zA, zB, zD] at ho
  subst ho
  refine ⟨by rfl, fun w hSw => ?_⟩
  (try dsimp only at hSw)
  go_simp
  try with_reducible rfl
 try simp only [Act.put, yA, yB, yC]
 refine hTk (i := 1) (d := some 8) (v := ?_) (fun o ho => ?_) hHeld ?_
 rotate_left
 ·simp only [zA, zB, zC, zD] at ho
  subst ho
  refine ⟨by rfl, fun w hSw => ?_⟩
  (try dsimp only at hSw)
  go_simp
  try with_reducible rfl
 try simp only [Act.put, yA, yB, yC]
 refine hTk (i := 2) (d := some 9) (v := ?_) (fun o ho => ?_) hHeld ?_
 rotate_left
 ·simp only [zA, zB, zC, zD] at ho
  subst ho
  refine ⟨by rfl, fun w hSw => ?_⟩
  (try dsimp only at hSw)
  go_simp
  try with_reducible rfl
 try simp only [Act.put, yA, yB, yC]
 refine hTk (i := 3) (d := some 10) (v := ?_) (fun o ho => ?_) hHeld ?_
 rotate_left
 ·simp only [zA, zB, zC, zD] at ho
  subst ho
  refine ⟨by rfl, fun w hSw => ?_⟩
  (try dsimp only at hSw)
  go_simp
  try with_reducible rfl
 try simp only [Act.put, yA, yB, yC]
 refine wpAnyH_ready (rs := [4]) (by kernel_rfl) (by simp) ?_
 refine held_step (i := 4) (by kernel_rfl) (fun o ho K' hK => ?_) ?_
 ·simp only [zA, zB, zC, zD] at ho
  subst ho
  obtain ⟨w4, hrun, hown, hgr⟩ := HMK.out (World.drew Aw) (Nat.le_refl _)
  go_simp
  have hx4 : Ext Aw w4 := (Ext.refl Aw).drew.grown hgr (fun g hg => by cases hg)
  have hin : IntsAt w4 (.slice (some ⟨Aw.heap.size, 0, none⟩) l.length l.length) (List.replicate l.length 0) := by have h := RowAt.of_owns hown; rw [madeCells_int, List.toList_toArray] at h; unfold IntsAt; rw [List.length_replicate]; exact h
  have hof : OffV (fun i => O0 i ∨ w4.heap.size ≤ i) (.slice (some ⟨Aw.heap.size, 0, none⟩) l.length l.length) := fun a n c hv hM => by have hlt := (World.ownsRow.lt hown _ rfl); cases hv; rcases hM with hM | hM; exact HNO.out _ (by have := hxa.size; exact this) hM; exact absurd hlt.2 (Nat.not_lt.2 hM)
  have HIN := Lib.hid (And.intro hin hof)
  clear hin hof hown hgr hrun
  refine hK.out _ _ ?_ (fun hHeld => ?_)
  ·exact HS3.out _ hx4
  clear hK K'
  try simp only [yA, yB, yC]
  refine wpAnyH_ready (rs := [5]) (by kernel_rfl) (by simp) ?_
  refine held_step (i := 5) (by kernel_rfl) (fun o ho K' hK => ?_) ?_
  ·simp only [zA, zB, zC, zD] at ho
   subst ho
   go_simp
   go_at_call 105
   refine (callsIn_wide.1 (HALL.out _ w4 hx4 HIN.out.1 HIN.out.2)).mono ?_
   rintro e w5 ⟨b', O', rfl, hT5, hO5, hj5, hjx5⟩
   try go_simp
   refine hK.out _ _ ?_ (fun hHeld => ?_)
   ·exact ⟨hT5.cell (HS3.out w4 hx4).1 (HNO.out _ (by simp only []; omega)), hT5.cell (HS3.out w4 hx4).2 HNL.out⟩
   clear hK K'
   try simp only [yA, yB, yC]
   refine wpAnyH_done (by kernel_rfl) ?_ _
   try simp only [yA, yB, yC]
   go_wp2
   go_end0
   exact ⟨⟨_, rfl⟩, by cases b' with | true => exact .inl ⟨_, hj5 (by trivial)⟩ | false => exact .inr (hjx5 (by trivial))⟩
  exact AllReadyH.nil
 exact AllReadyH.nil
end Go.Proofs.YtiodjapdiflphaaGreatDoor
/- Licences and takes that are as defined: what is known of their numbers. -/
namespace Go.Proofs.YtiodjapdiflphaaGreatDoor
structure LicB (b : Book) (x : Licence) : Prop where
 r : 0 ≤ x.river ∧ x.river < b.rivers.length
 f : 0 ≤ x.first ∧ x.first ≤ x.last ∧ x.last < b.years
 q : 0 ≤ x.quota ∧ x.quota ≤ 100
structure TakB (b : Book) (t : Take) : Prop where
 r : 0 ≤ t.river ∧ t.river < b.rivers.length
 y : 0 ≤ t.low ∧ t.low ≤ t.high ∧ t.high < b.years
 m : 0 ≤ t.many ∧ t.many ≤ 100
theorem licB_of {b : Book} {x : Licence} (h : badLicence b x = false) : LicB b x := by
 simp only [badLicence, isRiverB, isYearB, Bool.or_eq_false_iff, Bool.not_eq_false', inB_iff, decide_eq_false_iff_not] at h
 obtain ⟨⟨⟨⟨a, c⟩, d⟩, e⟩, f⟩ := h
 exact ⟨by omega, by omega, f⟩
theorem takB_of {b : Book} {t : Take} (h : badTake b t = false) : TakB b t := by
 simp only [badTake, isRiverB, isYearB, Bool.or_eq_false_iff, Bool.not_eq_false', inB_iff, decide_eq_false_iff_not] at h
 obtain ⟨⟨⟨⟨a, c⟩, d⟩, e⟩, f⟩ := h
 exact ⟨by omega, by omega, f⟩
theorem licencesB_of {b : Book} {l : List Licence} (h : areLicencesB b l = true) : l.length ≤ 4 ∧ ∀ x, x ∈ l → LicB b x := by
 simp only [areLicencesB, Bool.and_eq_true, decide_eq_true_eq, Bool.not_eq_true', List.any_eq_false, Bool.not_eq_true] at h
 exact ⟨h.1, fun x hx => licB_of (h.2 x hx)⟩
theorem takesB_of {b : Book} {ts : List Take} (h : areTakesB b ts = true) : ts.length ≤ 6 ∧ ∀ t, t ∈ ts → TakB b t := by
 simp only [areTakesB, Bool.and_eq_true, decide_eq_true_eq, Bool.not_eq_true', List.any_eq_false, Bool.not_eq_true] at h
 exact ⟨h.1, fun t ht => takB_of (h.2 t ht)⟩
/-- A take as numbers from 0 on. -/
theorem TakB.nat {b : Book} {t : Take} (h : TakB b t) : ∃ r lo hi : Nat, t = ⟨r, lo, hi, t.many⟩ ∧ r < b.rivers.length ∧ (hi : Int) < b.years ∧ lo ≤ hi := by
 obtain ⟨r, lo, hi, m⟩ := t
 have h1 := h.r
 have h2 := h.y
 simp only at h1 h2
 refine ⟨r.toNat, lo.toNat, hi.toNat, ?_, by omega, by omega, by omega⟩
 rw [show ((r.toNat : Nat) : Int) = r by omega, show ((lo.toNat : Nat) : Int) = lo by omega, show ((hi.toNat : Nat) : Int) = hi by omega]
end Go.Proofs.YtiodjapdiflphaaGreatDoor
