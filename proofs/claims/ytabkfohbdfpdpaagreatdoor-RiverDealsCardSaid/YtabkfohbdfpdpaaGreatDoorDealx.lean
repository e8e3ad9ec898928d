/- Deal, Deals. -/
import Derived.Test.YtabkfohbdfpdpaaGreatDoorDealm
namespace Go.Proofs.YtabkfohbdfpdpaaGreatDoor
open Go.RowKit

/-! ### Deal -/
theorem deal_all (b : Book) (l : List Licence) (all : List Take) (rv lv tv : Value) (w0 : World) (bb lb tb yb cb ly B0 : Nat) (Jx : World → Prop) (hB : BookB b) (hrv : RiversAt w0 rv b.rivers) (hlv : RowOf licC w0 lv l) (htv : RowOf takC w0 tv all) (hlB : ∀ x, x ∈ l → LicB b x) (htB : ∀ t, t ∈ all → TakB b t) (hal : all.length ≤ 6) (hll : l.length ≤ 4) :
    ∀ (rest : List Take), (∀ t, t ∈ rest → t ∈ all) → DealCall b l all rv lv tv w0 bb lb tb yb cb ly B0 Jx rest
  | [], _ => by
    obtain ⟨ta, tc, rfl, _⟩ := RowAt.open htv
    exact deal_zero b l all rv lv ta tc w0 bb lb tb yb cb ly B0 Jx
  | t :: rest, hin => by
    have ht := htB t (hin t (List.mem_cons_self ..))
    obtain ⟨r, lo, hi, he, h1, h2, h3⟩ := ht.nat
    have hm := ht.m
    rw [he]
    rw [he] at hm
    exact deal_node b l all rest rv lv tv w0 bb lb tb yb cb ly B0 Jx r lo hi t.many hB hrv hlv htv hlB h1 h2 h3 hm hal hll (deal_all b l all rv lv tv w0 bb lb tb yb cb ly B0 Jx hB hrv hlv htv hlB htB hal hll rest (fun x hx => hin x (List.mem_cons_of_mem _ hx)))
theorem Deal_any (bv lv tv : Value) (b : Book) (l : List Licence) (ts : List Take) (w : World) (hb : BookAt w bv b) (hl : RowOf licC w lv l) (ht : RowOf takC w tv ts) : Calls Tryz.prog 34 #[bv, lv, tv] w (DealRes b l ts w) := by
  refine Deal_of bv lv tv b l ts w hb hl ht ?_
  rintro rv w1 rfl hx harg
  unfold dealArg at harg
  simp only [Bool.and_eq_true] at harg
  obtain ⟨⟨hb1, hl1⟩, ht1⟩ := harg
  obtain ⟨_, e, hr⟩ := hb
  cases e
  obtain ⟨l1, l2⟩ := licencesB_of hl1
  obtain ⟨t1, t2⟩ := takesB_of ht1
  obtain ⟨la, lc, hlv, _⟩ := RowAt.open hl
  exact deals_iter b l ts rv lv tv w1 ⟨la, lc, hlv⟩ l1 (fun bb lb tb yb cb ly B0 Jx _ => deal_all b l ts rv lv tv w1 bb lb tb yb cb ly B0 Jx (bookB_of hb1) (hr.ext hx) (RowOf.ext hl hx) (RowOf.ext ht hx) l2 t2 t1 l1 ts (fun _ h => h))

theorem TakB.nat2 {b : Book} {t : Take} (h : TakB b t) : ∃ (r lo hi : Nat) (m : Int), t = ⟨r, lo, hi, m⟩ ∧ r < b.rivers.length ∧ (hi : Int) < b.years ∧ lo ≤ hi ∧ 0 ≤ m ∧ m ≤ 100 := by
  obtain ⟨r, lo, hi, he, h1, h2, h3⟩ := h.nat
  exact ⟨r, lo, hi, t.many, he, h1, h2, h3, h.m.1, h.m.2⟩

/-! ### Deals -/
def dealOkB (l : List Licence) (d : List Int) : Bool := !d.any (fun n => !inB n (-1) (l.length - 1))
def dealsArg (b : Book) (l : List Licence) (ts : List Take) (d : List Int) : Bool := dealArg b l ts && decide (d.length = ts.length) && dealOkB l d
def DealsRes (b : Book) (l : List Licence) (ts : List Take) (d : List Int) (w : World) (e : Ending) (w' : World) : Prop :=
  e = .returned (.tuple #[.bool (if dealsArg b l ts d then (dealsB b l ts d).1 else false), .int .i64 (if dealsArg b l ts d then (dealsB b l ts d).2 else 0), .int .i64 (if dealsArg b l ts d then 0 else 2)]) ∧ Ext w w'
theorem deals1_any (n : Int) (l : List Licence) (la : Option Addr) (lc : Nat) (lb : Nat) (w : World) (hl : l.length ≤ 4) (h : w.cell? ⟨lb, 0, none⟩ = some (.slice la l.length lc)) :
    Calls Tryz.prog 77 #[.int .i64 n, .pointer (some ⟨lb, 0, none⟩)] w fun e w' => e = .returned (.bool (!inB n (-1) (l.length - 1))) ∧ w = w' := by
  go_enter Tryz.func77, Tryz.ntmps77
  go_wp2_with (go_at_call 70; refine (in_any _ _ _ _).mono ?_; rintro e w' ⟨rfl, rfl⟩)
  go_ret
  exact ⟨rfl, rfl⟩
theorem enters_Deals1 : ∀ args w, (callFunc 77 args).run Tryz.prog w = .ok (.enter 77 args) w := enters_of Tryz.func77 (by kernel_rfl) rfl
theorem contains_deals1 (dv : Value) (d : List Int) (l : List Licence) (la : Option Addr) (lc lb : Nat) (w : World) (hl : l.length ≤ 4) (hd : IntsAt w dv d) (h : w.cell? ⟨lb, 0, none⟩ = some (.slice la l.length lc)) :
    Calls Tryz.prog 76 #[dv, .func (.func 77) #[] #[.pointer (some ⟨lb, 0, none⟩)]] w fun e w' => e = .returned (.bool (d.any fun n => !inB n (-1) (l.length - 1))) ∧ Ext w w' :=
  containsFuncI dv _ _ _ d w hd (fun x _ w1 hx => (deals1_any x l la lc lb w1 hl (hx.cell h)).mono (by rintro e w' ⟨rfl, rfl⟩; exact ⟨rfl, Ext.refl _⟩)) enters_Deals1
/-- What is left to do when j takes have been gone through. -/
structure DealsJ (b : Book) (l : List Licence) (ts : List Take) (d : List Int) (j : Nat) (used : List Int) (rest : Int) : Prop where
  go : dealsB b l ts d = dealsGo b l (ts.drop j) (d.drop j) used rest
  ul : used.length = l.length
  ub : ∀ u, u ∈ used → 0 ≤ u ∧ u ≤ 100 * j
  rb : 0 ≤ rest ∧ rest ≤ 100 * j
theorem DealsJ.zero (b : Book) (l : List Licence) (ts : List Take) (d : List Int) : DealsJ b l ts d 0 (List.replicate l.length 0) 0 :=
  ⟨rfl, by simp, fun u hu => by rw [List.eq_of_mem_replicate hu]; simp, by simp⟩
theorem drop_at {α : Type} {xs : List α} {j : Nat} {x : α} (h : xs[j]? = some x) : xs.drop j = x :: xs.drop (j + 1) := by
  obtain ⟨h1, h2⟩ := List.getElem?_eq_some_iff.1 h
  rw [List.drop_eq_getElem_cons h1, h2]
section
variable {b : Book} {l : List Licence} {ts : List Take} {d : List Int} {j n : Nat} {used : List Int} {rest u : Int} {t : Take} {x : Licence}
theorem DealsJ.none (h : DealsJ b l ts d j used rest) (ht : ts[j]? = some t) (hd : d[j]? = some (-1)) (hm : 0 ≤ t.many ∧ t.many ≤ 100) : DealsJ b l ts d (j + 1) used (rest + t.many) := by
  refine ⟨?_, h.ul, fun u hu => by have := h.ub u hu; omega, by have := h.rb; omega⟩
  rw [h.go, drop_at ht, drop_at hd]
  show (if (-1 : Int) = -1 then _ else _) = _
  rw [if_pos rfl]
theorem DealsJ.bad (h : DealsJ b l ts d j used rest) (ht : ts[j]? = some t) (hd : d[j]? = some (n : Int)) (hx : l[n]? = some x) (hu : used[n]? = some u) (hbad : goodB b x t = false ∨ x.quota < u + t.many) : dealsB b l ts d = (false, 0) := by
  rw [h.go, drop_at ht, drop_at hd]
  show (if (n : Int) = -1 then _ else (if goodB b (licAt l (n : Int).toNat) t = false ∨ (licAt l (n : Int).toNat).quota < used.getD (n : Int).toNat 0 + t.many then _ else _)) = _
  rw [if_neg (by omega), Int.toNat_natCast, licAt_at hx, getD_at hu, if_pos hbad]
theorem DealsJ.some (h : DealsJ b l ts d j used rest) (ht : ts[j]? = some t) (hd : d[j]? = some (n : Int)) (hx : l[n]? = some x) (hu : used[n]? = some u) (hg : goodB b x t = true) (hq : ¬ x.quota < u + t.many) (hm : 0 ≤ t.many ∧ t.many ≤ 100) : DealsJ b l ts d (j + 1) (used.set n (u + t.many)) rest := by
  refine ⟨?_, by rw [List.length_set]; exact h.ul, fun v hv => ?_, by have := h.rb; omega⟩
  · rw [h.go, drop_at ht, drop_at hd]
    show (if (n : Int) = -1 then _ else (if goodB b (licAt l (n : Int).toNat) t = false ∨ (licAt l (n : Int).toNat).quota < used.getD (n : Int).toNat 0 + t.many then _ else dealsGo b l (ts.drop (j + 1)) (d.drop (j + 1)) (used.set (n : Int).toNat (used.getD (n : Int).toNat 0 + t.many)) rest)) = _
    rw [if_neg (by omega), Int.toNat_natCast, licAt_at hx, getD_at hu, if_neg (by rw [hg]; simp; omega)]
  · rcases List.mem_or_eq_of_mem_set hv with hv | hv
    · have := h.ub v hv; omega
    · have := h.ub u (List.mem_of_getElem? hu); omega
theorem DealsJ.done (h : DealsJ b l ts d j used rest) (hd : d.length ≤ j) : dealsB b l ts d = (true, rest) := by
  rw [h.go, List.drop_eq_nil_of_le hd]
  cases ts.drop j <;> rfl
end
set_option maxRecDepth 100000 in
set_option maxHeartbeats 16000000 in
theorem Deals_any (bv lv tv dv : Value) (b : Book) (l : List Licence) (ts : List Take) (d : List Int) (w : World) (hb : BookAt w bv b) (hl : RowOf licC w lv l) (ht : RowOf takC w tv ts) (hd : IntsAt w dv d) :
    Calls Tryz.prog 33 #[bv, lv, tv, dv] w (DealsRes b l ts d w) := by
  have HB := Lib.hid (fun w1 (hx : Ext w w1) => isBook_any bv b w1 (hb.ext hx))
  obtain ⟨rv, rfl, hr⟩ := hb
  have HLI := Lib.hid (fun w1 (hx : Ext w w1) (h : isBookB b = true) => areLicences_any b rv lv l w1 h (hr.ext hx) (RowOf.ext hl hx))
  have HTA := Lib.hid (fun w1 (hx : Ext w w1) (h : isBookB b = true) => areTakes_any b rv tv ts w1 h (hr.ext hx) (RowOf.ext ht hx))
  have HR := Lib.hid hr
  obtain ⟨ra, rc, rfl, _⟩ := hr.open
  have HG := Lib.hid (fun (X : Licence) (r lo hi : Nat) (m : Int) (hB : BookB b) (h1 : r < b.rivers.length) (h2 : (hi : Int) < b.years) (h3 : lo ≤ hi) w1 (h : Ext w w1) => good_any b (.slice ra b.rivers.length rc) X r lo hi m w1 hB (HR.out.ext h) h1 h2 h3)
  obtain ⟨la, lc, rfl, l1, l2, l3⟩ := RowOf.open4 (f0 := fun (x : Licence) => Value.int .i64 x.river) (f1 := fun (x : Licence) => Value.int .i64 x.first) (f2 := fun (x : Licence) => Value.int .i64 x.last) (f3 := fun (x : Licence) => Value.int .i64 x.quota) (fun _ => rfl) hl
  obtain ⟨ka, kc, rfl, k1, k2, k3⟩ := RowOf.open4 (f0 := fun (x : Take) => Value.int .i64 x.river) (f1 := fun (x : Take) => Value.int .i64 x.low) (f2 := fun (x : Take) => Value.int .i64 x.high) (f3 := fun (x : Take) => Value.int .i64 x.many) (fun _ => rfl) ht
  have HCD := Lib.hid (fun w1 (h : Ext w w1) lb (h4 : l.length ≤ 4) hc => contains_deals1 dv d l la lc lb w1 h4 (IntsAt.ext hd h) hc)
  obtain ⟨da, dc, rfl, e1, e2, e3⟩ := hd.open
  have hx0 : Ext w ((w.alloc (.cells #[.int .i64 b.years, .slice ra b.rivers.length rc] 24)).alloc (.cells #[.slice la l.length lc] 74)) := ((Ext.refl w).alloc _).alloc _
  have HX0 := Lib.hid hx0
  have HS := Lib.hid (fun W (h : Ext ((w.alloc (.cells #[.int .i64 b.years, .slice ra b.rivers.length rc] 24)).alloc (.cells #[.slice la l.length lc] 74)) W) => (⟨h.cell (by go_simp), h.cell (by go_simp), h.cell (by go_simp)⟩ : W.cell? ⟨w.heap.size, 0, none⟩ = some (.int .i64 b.years) ∧ W.cell? ⟨w.heap.size, 1, none⟩ = some (.slice ra b.rivers.length rc) ∧ W.cell? ⟨w.heap.size + 1, 0, none⟩ = some (.slice la l.length lc)))
  have hy := Ext.refl ((w.alloc (.cells #[.int .i64 b.years, .slice ra b.rivers.length rc] 24)).alloc (.cells #[.slice la l.length lc] 74))
  have hno : dealsArg b l ts d = false → ∀ w', Ext w w' → DealsRes b l ts d w (.returned (.tuple #[.bool false, .int .i64 0, .int .i64 2])) w' := fun h w' hx => ⟨by rw [h]; rfl, hx⟩
  have hyes : dealsArg b l ts d = true → ∀ w' x y, dealsB b l ts d = (x, y) → Ext w w' → DealsRes b l ts d w (.returned (.tuple #[.bool x, .int .i64 y, .int .i64 0])) w' := fun h w' x y he hx => ⟨by rw [h, he]; rfl, hx⟩
  have HNO := Lib.hid hno
  have HYES := Lib.hid hyes
  have HL3 := Lib.hid l3
  have HK3 := Lib.hid k3
  have HD3 := Lib.hid e3
  have hmix : Tryz.prog.follows .mixedOrders = true := by kernel_rfl
  clear hr hl ht hd hx0 hno hyes l3 k3 e3
  cases h1 : isBookB b with
  | false =>
    rw [h1] at HB
    have HF := Lib.hid (HNO.out (by unfold dealsArg dealArg; rw [h1]; rfl))
    clear h1
    obtain ⟨z0, z1, z2⟩ := HS.out _ hy
    go_enter Tryz.func33, Tryz.ntmps33
    go_wp2_with (first | (go_at_call 60; refine (HB.out _ (HX0.out.trans hy)).mono ?_; rintro e w1 ⟨rfl, hx1⟩; replace hy := hy.trans hx1; clear hx1 z0 z1 z2; obtain ⟨z0, z1, z2⟩ := HS.out _ hy))
    refine bodyPost_ret (by simp [results, Tryz.results33, go_sem] <;> rfl) rfl ?_
    exact HF.out _ (HX0.out.trans hy)
  | true =>
    rw [h1] at HB
    have HL2 := Lib.hid (fun w1 hx => HLI.out w1 hx h1)
    have HT2 := Lib.hid (fun w1 hx => HTA.out w1 hx h1)
    cases h2 : areLicencesB b l with
    | false =>
      rw [h2] at HL2
      have HF := Lib.hid (HNO.out (by unfold dealsArg dealArg; rw [h1, h2]; rfl))
      clear h1 h2
      obtain ⟨z0, z1, z2⟩ := HS.out _ hy
      go_enter Tryz.func33, Tryz.ntmps33
      go_wp2_with (first | (go_at_call 60; refine (HB.out _ (HX0.out.trans hy)).mono ?_; rintro e w1 ⟨rfl, hx1⟩; replace hy := hy.trans hx1; clear hx1 z0 z1 z2; obtain ⟨z0, z1, z2⟩ := HS.out _ hy) | (go_at_call 74; refine (HL2.out _ (HX0.out.trans hy)).mono ?_; rintro e w2 ⟨rfl, hx1⟩; replace hy := hy.trans hx1; clear hx1 z0 z1 z2; obtain ⟨z0, z1, z2⟩ := HS.out _ hy))
      refine bodyPost_ret (by simp [results, Tryz.results33, go_sem] <;> rfl) rfl ?_
      exact HF.out _ (HX0.out.trans hy)
    | true =>
      rw [h2] at HL2
      cases h3 : areTakesB b ts with
      | false =>
        rw [h3] at HT2
        have HF := Lib.hid (HNO.out (by unfold dealsArg dealArg; rw [h1, h2, h3]; rfl))
        clear h1 h2 h3
        obtain ⟨z0, z1, z2⟩ := HS.out _ hy
        go_enter Tryz.func33, Tryz.ntmps33
        go_wp2_with (first | (go_at_call 60; refine (HB.out _ (HX0.out.trans hy)).mono ?_; rintro e w1 ⟨rfl, hx1⟩; replace hy := hy.trans hx1; clear hx1 z0 z1 z2; obtain ⟨z0, z1, z2⟩ := HS.out _ hy) | (go_at_call 74; refine (HL2.out _ (HX0.out.trans hy)).mono ?_; rintro e w2 ⟨rfl, hx1⟩; replace hy := hy.trans hx1; clear hx1 z0 z1 z2; obtain ⟨z0, z1, z2⟩ := HS.out _ hy) | (go_at_call 75; refine (HT2.out _ (HX0.out.trans hy)).mono ?_; rintro e w3 ⟨rfl, hx1⟩; replace hy := hy.trans hx1; clear hx1 z0 z1 z2; obtain ⟨z0, z1, z2⟩ := HS.out _ hy))
        refine bodyPost_ret (by simp [results, Tryz.results33, go_sem] <;> rfl) rfl ?_
        exact HF.out _ (HX0.out.trans hy)
      | true =>
        rw [h3] at HT2
        obtain ⟨hll, hlB⟩ := licencesB_of h2
        obtain ⟨htl, htB⟩ := takesB_of h3
        have hBB := bookB_of h1
        have HC2 := Lib.hid (fun w1 hx lb hc => HCD.out w1 hx lb hll hc)
        by_cases h4 : d.length = ts.length
        rotate_left
        · have t1 : ((d.length : Int) != (ts.length : Int)) = true := by simp; omega
          have t2 : (d.length != ts.length) = true := by simpa using h4
          have HF := Lib.hid (HNO.out (by unfold dealsArg; rw [show decide (d.length = ts.length) = false by simpa using h4]; simp))
          clear h1 h2 h3 h4 hlB htB hBB
          obtain ⟨z0, z1, z2⟩ := HS.out _ hy
          go_enter Tryz.func33, Tryz.ntmps33
          go_wp2_with (first | (go_at_call 60; refine (HB.out _ (HX0.out.trans hy)).mono ?_; rintro e w1 ⟨rfl, hx1⟩; replace hy := hy.trans hx1; clear hx1 z0 z1 z2; obtain ⟨z0, z1, z2⟩ := HS.out _ hy) | (go_at_call 74; refine (HL2.out _ (HX0.out.trans hy)).mono ?_; rintro e w2 ⟨rfl, hx1⟩; replace hy := hy.trans hx1; clear hx1 z0 z1 z2; obtain ⟨z0, z1, z2⟩ := HS.out _ hy) | (go_at_call 75; refine (HT2.out _ (HX0.out.trans hy)).mono ?_; rintro e w3 ⟨rfl, hx1⟩; replace hy := hy.trans hx1; clear hx1 z0 z1 z2; obtain ⟨z0, z1, z2⟩ := HS.out _ hy))
          refine bodyPost_ret (by simp [results, Tryz.results33, go_sem] <;> rfl) rfl ?_
          exact HF.out _ (HX0.out.trans hy)
        · have t1 : ((d.length : Int) != (ts.length : Int)) = false := by simp; omega
          have t2 : (d.length != ts.length) = false := by simpa using h4
          cases h5 : d.any (fun n => !inB n (-1) (l.length - 1)) with
          | true =>
            rw [h5] at HC2
            have HF := Lib.hid (HNO.out (by unfold dealsArg dealOkB; rw [h5]; simp))
            clear h1 h2 h3 h4 h5 hlB htB hBB
            obtain ⟨z0, z1, z2⟩ := HS.out _ hy
            go_enter Tryz.func33, Tryz.ntmps33
            go_wp2_with (first | (go_at_call 60; refine (HB.out _ (HX0.out.trans hy)).mono ?_; rintro e w1 ⟨rfl, hx1⟩; replace hy := hy.trans hx1; clear hx1 z0 z1 z2; obtain ⟨z0, z1, z2⟩ := HS.out _ hy) | (go_at_call 74; refine (HL2.out _ (HX0.out.trans hy)).mono ?_; rintro e w2 ⟨rfl, hx1⟩; replace hy := hy.trans hx1; clear hx1 z0 z1 z2; obtain ⟨z0, z1, z2⟩ := HS.out _ hy) | (go_at_call 75; refine (HT2.out _ (HX0.out.trans hy)).mono ?_; rintro e w3 ⟨rfl, hx1⟩; replace hy := hy.trans hx1; clear hx1 z0 z1 z2; obtain ⟨z0, z1, z2⟩ := HS.out _ hy) | (go_at_call 76; refine (HC2.out _ (HX0.out.trans hy) (w.heap.size + 1) z2).mono ?_; rintro e w4 ⟨rfl, hx1⟩; replace hy := hy.trans hx1; clear hx1 z0 z1 z2; obtain ⟨z0, z1, z2⟩ := HS.out _ hy))
            refine bodyPost_ret (by simp [results, Tryz.results33, go_sem] <;> rfl) rfl ?_
            exact HF.out _ (HX0.out.trans hy)
          | false =>
            rw [h5] at HC2
            have harg : dealsArg b l ts d = true := by unfold dealsArg dealArg dealOkB; rw [h1, h2, h3, h5, decide_eq_true h4]; rfl
            have HF := Lib.hid (HYES.out harg)
            have hin : ∀ (j : Nat) (x : Int), d[j]? = some x → -1 ≤ x ∧ x ≤ (l.length : Int) - 1 := fun j x hx => by
              have h6 := (List.any_eq_false.1 h5) x (List.mem_of_getElem? hx)
              simp only [Bool.not_eq_true', Bool.not_eq_false] at h6
              exact inB_iff.1 h6
            have HIN := Lib.hid hin
            have HLB := Lib.hid hlB
            have HTB := Lib.hid htB
            have HGB := Lib.hid (fun (X : Licence) (r lo hi : Nat) (m : Int) => HG.out X r lo hi m hBB)
            have HDL := Lib.hid h4
            obtain ⟨ii, hi1, hi2, hi3, hi4⟩ := info_parts info_int
            have HMK := Lib.hid (fun (w1 : World) => run_makeSlice_full (P := Tryz.prog) (w := w1) w1.heap.size 28 3 ii (.int .i64 0) 1 Tryz.underlying28 hi1 hi2 hi3 .i64 .i64 l.length (by omega) (by rw [hi4]; omega) (by unfold maxLen; omega) (Nat.le_refl _))
            clear h1 h2 h3 h4 h5 hlB htB hBB harg hin hi1 hi2 hi3 hi4 HG
            obtain ⟨z0, z1, z2⟩ := HS.out _ hy
            go_enter Tryz.func33, Tryz.ntmps33
            go_upto_region 3 with (first | (go_at_call 60; refine (HB.out _ (HX0.out.trans hy)).mono ?_; rintro e w1 ⟨rfl, hx1⟩; replace hy := hy.trans hx1; clear hx1 z0 z1 z2; obtain ⟨z0, z1, z2⟩ := HS.out _ hy) | (go_at_call 74; refine (HL2.out _ (HX0.out.trans hy)).mono ?_; rintro e w2 ⟨rfl, hx1⟩; replace hy := hy.trans hx1; clear hx1 z0 z1 z2; obtain ⟨z0, z1, z2⟩ := HS.out _ hy) | (go_at_call 75; refine (HT2.out _ (HX0.out.trans hy)).mono ?_; rintro e w3 ⟨rfl, hx1⟩; replace hy := hy.trans hx1; clear hx1 z0 z1 z2; obtain ⟨z0, z1, z2⟩ := HS.out _ hy) | (go_at_call 76; refine (HC2.out _ (HX0.out.trans hy) (w.heap.size + 1) z2).mono ?_; rintro e w4 ⟨rfl, hx1⟩; replace hy := hy.trans hx1; clear hx1 z0 z1 z2; obtain ⟨z0, z1, z2⟩ := HS.out _ hy))
            obtain ⟨w5, hrun, hown, hgr⟩ := HMK.out w4
            have hx5 : Ext w4 w5 := (Ext.refl w4).grown hgr (fun g hg => by cases hg)
            have hxw4 : Ext w w4 := HX0.out.trans hy
            have HS4 := Lib.hid (fun W (h : Ext w4 W) => HS.out W (hy.trans h))
            have how : w5.ownsRow w4.heap.size 3 1 (.slice (some ⟨w4.heap.size, 0, none⟩) l.length l.length) l.length ((List.replicate l.length 0).map (.int .i64)) := by rw [madeCells_int, List.toList_toArray] at hown; exact hown
            have HOW := Lib.hid how
            clear how hown hgr
            go_wp2
            clear hrun hy z0 z1 z2
            go_loopw [12, 47] (fun rs i wr => ∃ (j : Nat) (used : List Int) (rest : Int), j ≤ d.length ∧ i = .int .i64 j ∧ rs = .int .i64 rest ∧ Hid (DealsJ b l ts d j used rest) ∧ Ext w4 wr ∧ Hid (wr.ownsRow w4.heap.size 3 1 (.slice (some ⟨w4.heap.size, 0, none⟩) l.length l.length) l.length (used.map (.int .i64)))) (fun _ i _ => d.length - (intOf i).toNat)
            case atStart => exact ⟨0, _, 0, Nat.zero_le _, rfl, rfl, DealsJ.zero b l ts d, hx5, HOW.out⟩
            case round =>
              clear hx5 HOW
              obtain ⟨j, used, rest, hj, rfl, rfl, hJ, hx, hown⟩ := hrel
              by_cases hlt : j < d.length
              · have hjt : j < ts.length := by have := HDL.out; omega
                obtain ⟨db, dof, x, rfl, hdx, dc0⟩ := HD3.out j hlt
                obtain ⟨kb, ko, t, rfl, htj, c0, c1, c2, c3⟩ := HK3.out j hjt
                obtain ⟨r, lo, hi, m, rfl, h1, h2, h3, hm1, hm2⟩ := (HTB.out t (List.mem_of_getElem? htj.out)).nat2
                try simp only at c0 c1 c2 c3
                have hxw := hxw4.trans hx
                have y0 := hxw.cell dc0
                have i1 : (0 : Int) ≤ (j : Int) := by omega
                have i2 : (j : Int) < (ts.length : Int) := by omega
                have i3 : (j : Int) < (d.length : Int) := by omega
                have t3 : decide ((j : Int) < (d.length : Int)) = true := by simpa using hlt
                have hrb1 := hJ.out.rb.1
                have hrb2 := hJ.out.rb.2
                obtain ⟨hx1, hx2⟩ := HIN.out j x hdx.out
                by_cases hxm : x = -1
                · subst hxm
                  have y3 := hxw.cell c3
                  have HJ2 := Lib.hid (hJ.out.none htj.out hdx.out ⟨hm1, hm2⟩)
                  clear c0 c1 c2 c3 dc0
                  go_wp2
                  go_roundw
                  case rel => exact ⟨j + 1, used, rest + m, by omega, by go_num, by first | rfl | go_num, HJ2.out, hx, hown⟩
                  case measure => simp [intOf]; omega
                · obtain ⟨n, rfl⟩ : ∃ n : Nat, x = n := ⟨x.toNat, by omega⟩
                  have hn : n < l.length := by omega
                  obtain ⟨qb, qo, X, rfl, hX, x0, x1, x2, x3⟩ := HL3.out n hn
                  try simp only at x0 x1 x2 x3
                  obtain ⟨u, hu⟩ : ∃ u, Hid (used[n]? = some u) := ⟨_, List.getElem?_eq_getElem (by rw [hJ.out.ul]; exact hn)⟩
                  have hub := hJ.out.ub u (List.mem_of_getElem? hu.out)
                  have hub1 := hub.1
                  have hub2 := hub.2
                  have hc3 : wr.cell? ⟨w4.heap.size, n, none⟩ = some (.int .i64 u) := by rw [hown.out.cellAt n (by omega), List.getElem?_map, hu.out]; rfl
                  have hf3 := hown.out.frozenAt n
                  have hm3 := hxw.cell c3
                  have j1 : (0 : Int) ≤ (n : Int) := by omega
                  have j2 : (n : Int) < (l.length : Int) := by omega
                  have t4 : ((n : Int) == -1) = false := by rw [beq_eq_false_iff_ne]; omega
                  have HC := Lib.hid (And.intro c0 (And.intro c1 (And.intro c2 c3)))
                  have HXC := Lib.hid (And.intro x0 (And.intro x1 (And.intro x2 x3)))
                  have HJJ := Lib.hid hJ
                  clear c0 c1 c2 c3 x0 x1 x2 x3 dc0 hub hx1 hx2 hxm hJ
                  go_upto_region 10 with fail
                  refine wp_region_noPanic ?_
                  refine wp_region_any (by kernel_rfl) (wpAny_of_till (z := 11) (S := (fun w' => w'.cell? ⟨w4.heap.size, n, none⟩ = some (.int .i64 u) ∧ w'.cell? ⟨kb, ko + j * 4 + 3, none⟩ = some (.int .i64 m) ∧ w'.frozen? ⟨w4.heap.size, n, none⟩ = false)) _ _ _ _ ?_)
                  change wpTill _ _ _ _ _ _ _ _ _ wr.drew
                  have hS0 := (show wr.drew.cell? ⟨w4.heap.size, n, none⟩ = some (.int .i64 u) ∧ wr.drew.cell? ⟨kb, ko + j * 4 + 3, none⟩ = some (.int .i64 m) ∧ wr.drew.frozen? ⟨w4.heap.size, n, none⟩ = false from ⟨hc3, hm3, hf3⟩)
                  refine till_at (i := 0) (d := some 61) (v := ?_) (by kernel_rfl) (by kernel_rfl) (by kernel_rfl) (by kernel_rfl) (by kernel_rfl) (fun _ _ _ h => h) (fun o ho => ?_) hS0 ?_
                  rotate_left
                  · simp only [List.getElem?_toArray, List.getElem?_cons_zero, Option.some.injEq] at ho
                    subst ho
                    refine Or.inl ⟨by rfl, fun w' hSw => ?_⟩
                    obtain ⟨hSw0, hSw1, hSw2⟩ := hSw
                    go_simp
                    try with_reducible rfl
                  try simp only [Act.put, List.setIfInBounds_toArray, List.set_cons_zero, List.set_cons_succ]
                  refine till_at (i := 1) (d := some 62) (v := ?_) (by kernel_rfl) (by kernel_rfl) (by kernel_rfl) (by kernel_rfl) (by kernel_rfl) (fun _ _ _ h => h) (fun o ho => ?_) hS0 ?_
                  rotate_left
                  · simp only [List.getElem?_toArray, List.getElem?_cons_zero, List.getElem?_cons_succ, Option.some.injEq] at ho
                    subst ho
                    refine Or.inl ⟨by rfl, fun w' hSw => ?_⟩
                    obtain ⟨hSw0, hSw1, hSw2⟩ := hSw
                    go_simp
                    try with_reducible rfl
                  try simp only [Act.put, List.setIfInBounds_toArray, List.set_cons_zero, List.set_cons_succ]
                  refine till_at (i := 2) (d := some 63) (v := ?_) (by kernel_rfl) (by kernel_rfl) (by kernel_rfl) (by kernel_rfl) (by kernel_rfl) (fun _ _ _ h => h) (fun o ho => ?_) hS0 ?_
                  rotate_left
                  · simp only [List.getElem?_toArray, List.getElem?_cons_zero, List.getElem?_cons_succ, Option.some.injEq] at ho
                    subst ho
                    refine Or.inl ⟨by rfl, fun w' hSw => ?_⟩
                    obtain ⟨hSw0, hSw1, hSw2⟩ := hSw
                    go_simp
                    try with_reducible rfl
                  try simp only [Act.put, List.setIfInBounds_toArray, List.set_cons_zero, List.set_cons_succ]
                  refine till_at (i := 3) (d := some 64) (v := ?_) (by kernel_rfl) (by kernel_rfl) (by kernel_rfl) (by kernel_rfl) (by kernel_rfl) (fun _ _ _ h => h) (fun o ho => ?_) hS0 ?_
                  rotate_left
                  · simp only [List.getElem?_toArray, List.getElem?_cons_zero, List.getElem?_cons_succ, Option.some.injEq] at ho
                    subst ho
                    refine Or.inl ⟨by rfl, fun w' hSw => ?_⟩
                    obtain ⟨hSw0, hSw1, hSw2⟩ := hSw
                    go_simp
                    try with_reducible rfl
                  try simp only [Act.put, List.setIfInBounds_toArray, List.set_cons_zero, List.set_cons_succ]
                  refine till_at (i := 4) (d := some 65) (v := ?_) (by kernel_rfl) (by kernel_rfl) (by kernel_rfl) (by kernel_rfl) (by kernel_rfl) (fun _ _ _ h => h) (fun o ho => ?_) hS0 ?_
                  rotate_left
                  · simp only [List.getElem?_toArray, List.getElem?_cons_zero, List.getElem?_cons_succ, Option.some.injEq] at ho
                    subst ho
                    refine Or.inl ⟨by rfl, fun w' hSw => ?_⟩
                    obtain ⟨hSw0, hSw1, hSw2⟩ := hSw
                    go_simp
                    try with_reducible rfl
                  try simp only [Act.put, List.setIfInBounds_toArray, List.set_cons_zero, List.set_cons_succ]
                  refine till_at (i := 5) (d := some 66) (v := ?_) (by kernel_rfl) (by kernel_rfl) (by kernel_rfl) (by kernel_rfl) (by kernel_rfl) (fun _ _ _ h => h) (fun o ho => ?_) hS0 ?_
                  rotate_left
                  · simp only [List.getElem?_toArray, List.getElem?_cons_zero, List.getElem?_cons_succ, Option.some.injEq] at ho
                    subst ho
                    refine Or.inl ⟨by rfl, fun w' hSw => ?_⟩
                    obtain ⟨hSw0, hSw1, hSw2⟩ := hSw
                    go_simp
                    try with_reducible rfl
                  try simp only [Act.put, List.setIfInBounds_toArray, List.set_cons_zero, List.set_cons_succ]
                  refine till_at (i := 6) (d := some 67) (v := ?_) (by kernel_rfl) (by kernel_rfl) (by kernel_rfl) (by kernel_rfl) (by kernel_rfl) (fun _ _ _ h => h) (fun o ho => ?_) hS0 ?_
                  rotate_left
                  · simp only [List.getElem?_toArray, List.getElem?_cons_zero, List.getElem?_cons_succ, Option.some.injEq] at ho
                    subst ho
                    refine Or.inl ⟨by rfl, fun w' hSw => ?_⟩
                    obtain ⟨hSw0, hSw1, hSw2⟩ := hSw
                    go_simp
                    try with_reducible rfl
                  try simp only [Act.put, List.setIfInBounds_toArray, List.set_cons_zero, List.set_cons_succ]
                  refine till_at (i := 7) (d := some 68) (v := ?_) (by kernel_rfl) (by kernel_rfl) (by kernel_rfl) (by kernel_rfl) (by kernel_rfl) (fun _ _ _ h => h) (fun o ho => ?_) hS0 ?_
                  rotate_left
                  · simp only [List.getElem?_toArray, List.getElem?_cons_zero, List.getElem?_cons_succ, Option.some.injEq] at ho
                    subst ho
                    refine Or.inl ⟨by rfl, fun w' hSw => ?_⟩
                    obtain ⟨hSw0, hSw1, hSw2⟩ := hSw
                    go_simp
                    try with_reducible rfl
                  try simp only [Act.put, List.setIfInBounds_toArray, List.set_cons_zero, List.set_cons_succ]
                  refine till_at (i := 8) (d := some 69) (v := ?_) (by kernel_rfl) (by kernel_rfl) (by kernel_rfl) (by kernel_rfl) (by kernel_rfl) (fun _ _ _ h => h) (fun o ho => ?_) hS0 ?_
                  rotate_left
                  · simp only [List.getElem?_toArray, List.getElem?_cons_zero, List.getElem?_cons_succ, Option.some.injEq] at ho
                    subst ho
                    refine Or.inl ⟨by rfl, fun w' hSw => ?_⟩
                    obtain ⟨hSw0, hSw1, hSw2⟩ := hSw
                    go_simp
                    try with_reducible rfl
                  try simp only [Act.put, List.setIfInBounds_toArray, List.set_cons_zero, List.set_cons_succ]
                  refine till_at (i := 9) (d := some 70) (v := ?_) (by kernel_rfl) (by kernel_rfl) (by kernel_rfl) (by kernel_rfl) (by kernel_rfl) (fun _ _ _ h => h) (fun o ho => ?_) hS0 ?_
                  rotate_left
                  · simp only [List.getElem?_toArray, List.getElem?_cons_zero, List.getElem?_cons_succ, Option.some.injEq] at ho
                    subst ho
                    refine Or.inl ⟨by rfl, fun w' hSw => ?_⟩
                    obtain ⟨hSw0, hSw1, hSw2⟩ := hSw
                    go_simp
                    try with_reducible rfl
                  try simp only [Act.put, List.setIfInBounds_toArray, List.set_cons_zero, List.set_cons_succ]
                  refine till_at (i := 10) (d := some 71) (v := ?_) (by kernel_rfl) (by kernel_rfl) (by kernel_rfl) (by kernel_rfl) (by kernel_rfl) (fun _ _ _ h => h) (fun o ho => ?_) hS0 ?_
                  rotate_left
                  · simp only [List.getElem?_toArray, List.getElem?_cons_zero, List.getElem?_cons_succ, Option.some.injEq] at ho
                    subst ho
                    refine Or.inl ⟨by rfl, fun w' hSw => ?_⟩
                    obtain ⟨hSw0, hSw1, hSw2⟩ := hSw
                    go_simp
                    try with_reducible rfl
                  try simp only [Act.put, List.setIfInBounds_toArray, List.set_cons_zero, List.set_cons_succ]
                  refine till_step (i := 11) (by kernel_rfl) (by kernel_rfl) (fun o ho K' hK => ?_)
                  simp only [List.getElem?_toArray, List.getElem?_cons_zero, List.getElem?_cons_succ, Option.some.injEq] at ho
                  subst ho
                  go_simp
                  refine hK.out _ _ (fun h => absurd rfl h) (fun _ => ?_)
                  clear hK K'
                  try simp only [Act.put, List.setIfInBounds_toArray, List.set_cons_zero, List.set_cons_succ]
                  refine till_done (by kernel_rfl) ?_ _
                  refine NoPanic.normal ?_
                  try simp only [Act.put, List.setIfInBounds_toArray, List.set_cons_zero, List.set_cons_succ]
                  (try rw [show IntKind.i64.wrap (u + m) = u + m from IntWalk.i64_in _ (by omega)])
                  have hx6 : Ext w4 (wr.setCell ⟨w4.heap.size, n, none⟩ (.int .i64 (u + m))).drew := (hx.setCell (Nat.le_refl _) _).drew
                  have hown6 : (wr.setCell ⟨w4.heap.size, n, none⟩ (.int .i64 (u + m))).drew.ownsRow w4.heap.size 3 1 (.slice (some ⟨w4.heap.size, 0, none⟩) l.length l.length) l.length ((used.set n (u + m)).map (.int .i64)) := by
                    have h5 := hown.out.stored n (.int .i64 (u + m))
                    rw [List.map_set]; exact owns_ext h5.1 ((Ext.refl _).drew)
                  generalize hw6 : (wr.setCell ⟨w4.heap.size, n, none⟩ (.int .i64 (u + m))).drew = w6 at *
                  have hcu : w6.cell? ⟨w4.heap.size, n, none⟩ = some (.int .i64 (u + m)) := by
                    rw [hown6.cellAt n (by omega), List.getElem?_map, List.getElem?_set_self (by rw [HJJ.out.out.ul]; exact hn)]; rfl
                  have HOW6 := Lib.hid hown6
                  have hxw6 := hxw4.trans hx6
                  have HS11 := Lib.hid (fun W' (h : Ext w6 W') => (⟨(HS4.out W' (hx6.trans h)).1, (HS4.out W' (hx6.trans h)).2.1, (HS4.out W' (hx6.trans h)).2.2, (hxw6.trans h).cell HXC.out.1, (hxw6.trans h).cell HXC.out.2.1, (hxw6.trans h).cell HXC.out.2.2.1, (hxw6.trans h).cell HXC.out.2.2.2, (hxw6.trans h).cell HC.out.1, (hxw6.trans h).cell HC.out.2.1, (hxw6.trans h).cell HC.out.2.2.1, (hxw6.trans h).cell HC.out.2.2.2, h.cell hcu⟩ : (fun w' => w'.cell? ⟨w.heap.size, 0, none⟩ = some (.int .i64 b.years) ∧ w'.cell? ⟨w.heap.size, 1, none⟩ = some (.slice ra b.rivers.length rc) ∧ w'.cell? ⟨w.heap.size + 1, 0, none⟩ = some (.slice (some ⟨qb, qo, none⟩) l.length lc) ∧ w'.cell? ⟨qb, qo + n * 4, none⟩ = some (.int .i64 X.river) ∧ w'.cell? ⟨qb, qo + n * 4 + 1, none⟩ = some (.int .i64 X.first) ∧ w'.cell? ⟨qb, qo + n * 4 + 2, none⟩ = some (.int .i64 X.last) ∧ w'.cell? ⟨qb, qo + n * 4 + 3, none⟩ = some (.int .i64 X.quota) ∧ w'.cell? ⟨kb, ko + j * 4, none⟩ = some (.int .i64 r) ∧ w'.cell? ⟨kb, ko + j * 4 + 1, none⟩ = some (.int .i64 lo) ∧ w'.cell? ⟨kb, ko + j * 4 + 2, none⟩ = some (.int .i64 hi) ∧ w'.cell? ⟨kb, ko + j * 4 + 3, none⟩ = some (.int .i64 m) ∧ w'.cell? ⟨w4.heap.size, n, none⟩ = some (.int .i64 (u + m))) W'))
                  have HGG := Lib.hid (fun w1 (h : Ext w6 w1) => HGB.out X r lo hi m h1 h2 h3 w1 (hxw6.trans h))
                  have HX6 := Lib.hid hx6
                  clear hw6 hown6 hcu hc3 hf3 hm3 y0 hown
                  cases hg : goodB b X ⟨(r : Int), (lo : Int), (hi : Int), m⟩ with
                  | false =>
                    have HFF := Lib.hid (HF.out · false 0 (HJJ.out.out.bad htj.out hdx.out hX.out hu.out (.inl hg)))
                    rw [hg] at HGG
                    clear hg
                    go_upto_region 11 with fail
                    refine wp_region_held_drew (S := (fun w' => w'.cell? ⟨w.heap.size, 0, none⟩ = some (.int .i64 b.years) ∧ w'.cell? ⟨w.heap.size, 1, none⟩ = some (.slice ra b.rivers.length rc) ∧ w'.cell? ⟨w.heap.size + 1, 0, none⟩ = some (.slice (some ⟨qb, qo, none⟩) l.length lc) ∧ w'.cell? ⟨qb, qo + n * 4, none⟩ = some (.int .i64 X.river) ∧ w'.cell? ⟨qb, qo + n * 4 + 1, none⟩ = some (.int .i64 X.first) ∧ w'.cell? ⟨qb, qo + n * 4 + 2, none⟩ = some (.int .i64 X.last) ∧ w'.cell? ⟨qb, qo + n * 4 + 3, none⟩ = some (.int .i64 X.quota) ∧ w'.cell? ⟨kb, ko + j * 4, none⟩ = some (.int .i64 r) ∧ w'.cell? ⟨kb, ko + j * 4 + 1, none⟩ = some (.int .i64 lo) ∧ w'.cell? ⟨kb, ko + j * 4 + 2, none⟩ = some (.int .i64 hi) ∧ w'.cell? ⟨kb, ko + j * 4 + 3, none⟩ = some (.int .i64 m) ∧ w'.cell? ⟨w4.heap.size, n, none⟩ = some (.int .i64 (u + m)))) (by kernel_rfl) ?_ (fun hHeld => ?_)
                    · exact HS11.out _ (by repeat (first | exact hxe | exact Ext.refl _ | apply Ext.drew))
                    refine held_take (i := 0) (d := some 72) (v := ?_) (by kernel_rfl) (by kernel_rfl) (by kernel_rfl) (by kernel_rfl) (fun _ _ _ h => h) (fun o ho => ?_) hHeld ?_
                    rotate_left
                    · simp only [List.getElem?_toArray, List.getElem?_cons_zero, Option.some.injEq] at ho
                      subst ho
                      refine ⟨by rfl, fun w hSw => ?_⟩
                      (try dsimp only at hSw)
                      go_simp
                      try with_reducible rfl
                    try simp only [Act.put, List.setIfInBounds_toArray, List.set_cons_zero, List.set_cons_succ]
                    refine held_take (i := 1) (d := some 73) (v := ?_) (by kernel_rfl) (by kernel_rfl) (by kernel_rfl) (by kernel_rfl) (fun _ _ _ h => h) (fun o ho => ?_) hHeld ?_
                    rotate_left
                    · simp only [List.getElem?_toArray, List.getElem?_cons_zero, List.getElem?_cons_succ, Option.some.injEq] at ho
                      subst ho
                      refine ⟨by rfl, fun w hSw => ?_⟩
                      (try dsimp only at hSw)
                      go_simp
                      try with_reducible rfl
                    try simp only [Act.put, List.setIfInBounds_toArray, List.set_cons_zero, List.set_cons_succ]
                    refine held_take (i := 2) (d := some 74) (v := ?_) (by kernel_rfl) (by kernel_rfl) (by kernel_rfl) (by kernel_rfl) (fun _ _ _ h => h) (fun o ho => ?_) hHeld ?_
                    rotate_left
                    · simp only [List.getElem?_toArray, List.getElem?_cons_zero, List.getElem?_cons_succ, Option.some.injEq] at ho
                      subst ho
                      refine ⟨by rfl, fun w hSw => ?_⟩
                      (try dsimp only at hSw)
                      go_simp
                      try with_reducible rfl
                    try simp only [Act.put, List.setIfInBounds_toArray, List.set_cons_zero, List.set_cons_succ]
                    refine held_take (i := 3) (d := some 75) (v := ?_) (by kernel_rfl) (by kernel_rfl) (by kernel_rfl) (by kernel_rfl) (fun _ _ _ h => h) (fun o ho => ?_) hHeld ?_
                    rotate_left
                    · simp only [List.getElem?_toArray, List.getElem?_cons_zero, List.getElem?_cons_succ, Option.some.injEq] at ho
                      subst ho
                      refine ⟨by rfl, fun w hSw => ?_⟩
                      (try dsimp only at hSw)
                      go_simp
                      try with_reducible rfl
                    try simp only [Act.put, List.setIfInBounds_toArray, List.set_cons_zero, List.set_cons_succ]
                    refine held_take (i := 4) (d := some 76) (v := ?_) (by kernel_rfl) (by kernel_rfl) (by kernel_rfl) (by kernel_rfl) (fun _ _ _ h => h) (fun o ho => ?_) hHeld ?_
                    rotate_left
                    · simp only [List.getElem?_toArray, List.getElem?_cons_zero, List.getElem?_cons_succ, Option.some.injEq] at ho
                      subst ho
                      refine ⟨by rfl, fun w hSw => ?_⟩
                      (try dsimp only at hSw)
                      go_simp
                      try with_reducible rfl
                    try simp only [Act.put, List.setIfInBounds_toArray, List.set_cons_zero, List.set_cons_succ]
                    refine held_take (i := 5) (d := some 77) (v := ?_) (by kernel_rfl) (by kernel_rfl) (by kernel_rfl) (by kernel_rfl) (fun _ _ _ h => h) (fun o ho => ?_) hHeld ?_
                    rotate_left
                    · simp only [List.getElem?_toArray, List.getElem?_cons_zero, List.getElem?_cons_succ, Option.some.injEq] at ho
                      subst ho
                      refine ⟨by rfl, fun w hSw => ?_⟩
                      (try dsimp only at hSw)
                      go_simp
                      try with_reducible rfl
                    try simp only [Act.put, List.setIfInBounds_toArray, List.set_cons_zero, List.set_cons_succ]
                    refine held_take (i := 6) (d := some 78) (v := ?_) (by kernel_rfl) (by kernel_rfl) (by kernel_rfl) (by kernel_rfl) (fun _ _ _ h => h) (fun o ho => ?_) hHeld ?_
                    rotate_left
                    · simp only [List.getElem?_toArray, List.getElem?_cons_zero, List.getElem?_cons_succ, Option.some.injEq] at ho
                      subst ho
                      refine ⟨by rfl, fun w hSw => ?_⟩
                      (try dsimp only at hSw)
                      go_simp
                      try with_reducible rfl
                    try simp only [Act.put, List.setIfInBounds_toArray, List.set_cons_zero, List.set_cons_succ]
                    refine held_take (i := 7) (d := some 79) (v := ?_) (by kernel_rfl) (by kernel_rfl) (by kernel_rfl) (by kernel_rfl) (fun _ _ _ h => h) (fun o ho => ?_) hHeld ?_
                    rotate_left
                    · simp only [List.getElem?_toArray, List.getElem?_cons_zero, List.getElem?_cons_succ, Option.some.injEq] at ho
                      subst ho
                      refine ⟨by rfl, fun w hSw => ?_⟩
                      (try dsimp only at hSw)
                      go_simp
                      try with_reducible rfl
                    try simp only [Act.put, List.setIfInBounds_toArray, List.set_cons_zero, List.set_cons_succ]
                    refine held_take (i := 8) (d := some 80) (v := ?_) (by kernel_rfl) (by kernel_rfl) (by kernel_rfl) (by kernel_rfl) (fun _ _ _ h => h) (fun o ho => ?_) hHeld ?_
                    rotate_left
                    · simp only [List.getElem?_toArray, List.getElem?_cons_zero, List.getElem?_cons_succ, Option.some.injEq] at ho
                      subst ho
                      refine ⟨by rfl, fun w hSw => ?_⟩
                      (try dsimp only at hSw)
                      go_simp
                      try with_reducible rfl
                    try simp only [Act.put, List.setIfInBounds_toArray, List.set_cons_zero, List.set_cons_succ]
                    refine wpAnyH_ready (rs := [9]) (by kernel_rfl) (by simp) ?_
                    refine held_step (i := 9) (by kernel_rfl) (fun o ho K' hK => ?_) ?_
                    · simp only [List.getElem?_toArray, List.getElem?_cons_zero, List.getElem?_cons_succ, Option.some.injEq] at ho
                      subst ho
                      go_simp
                      go_at_call 78
                      refine (HGG.out _ (by repeat (first | exact Ext.refl _ | apply Ext.drew))).mono ?_
                      rintro e w7 ⟨rfl, hx7⟩
                      have hxe := (by repeat (first | exact Ext.refl _ | apply Ext.drew) : Ext w6 w6.drew).trans hx7
                      try go_simp
                      refine hK.out _ _ ?_ (fun hHeld => ?_)
                      · exact HS11.out _ (by repeat (first | exact hxe | exact Ext.refl _ | apply Ext.drew))
                      clear hK K'
                      try simp only [List.setIfInBounds_toArray, List.set_cons_zero, List.set_cons_succ]
                      refine held_take (i := 10) (d := some 82) (v := ?_) (by kernel_rfl) (by kernel_rfl) (by kernel_rfl) (by kernel_rfl) (fun _ _ _ h => h) (fun o ho => ?_) hHeld ?_
                      rotate_left
                      · simp only [List.getElem?_toArray, List.getElem?_cons_zero, List.getElem?_cons_succ, Option.some.injEq] at ho
                        subst ho
                        refine ⟨by rfl, fun w hSw => ?_⟩
                        (try dsimp only at hSw)
                        go_simp
                        try with_reducible rfl
                      try simp only [Act.put, List.setIfInBounds_toArray, List.set_cons_zero, List.set_cons_succ]
                      refine held_take (i := 11) (d := some 83) (v := ?_) (by kernel_rfl) (by kernel_rfl) (by kernel_rfl) (by kernel_rfl) (fun _ _ _ h => h) (fun o ho => ?_) hHeld ?_
                      rotate_left
                      · simp only [List.getElem?_toArray, List.getElem?_cons_zero, List.getElem?_cons_succ, Option.some.injEq] at ho
                        subst ho
                        refine ⟨by rfl, fun w hSw => ?_⟩
                        (try dsimp only at hSw)
                        go_simp
                        try with_reducible rfl
                      try simp only [Act.put, List.setIfInBounds_toArray, List.set_cons_zero, List.set_cons_succ]
                      refine held_skip (i := 12) (d := some 84) (by kernel_rfl) (by kernel_rfl) (by kernel_rfl) (by kernel_rfl) (by kernel_rfl) (fun _ _ _ h => h) hHeld ?_
                      try simp only [Act.put, List.setIfInBounds_toArray, List.set_cons_zero, List.set_cons_succ]
                      refine held_skip (i := 13) (d := some 85) (by kernel_rfl) (by kernel_rfl) (by kernel_rfl) (by kernel_rfl) (by kernel_rfl) (fun _ _ _ h => h) hHeld ?_
                      try simp only [Act.put, List.setIfInBounds_toArray, List.set_cons_zero, List.set_cons_succ]
                      refine held_skip (i := 14) (d := some 86) (by kernel_rfl) (by kernel_rfl) (by kernel_rfl) (by kernel_rfl) (by kernel_rfl) (fun _ _ _ h => h) hHeld ?_
                      try simp only [Act.put, List.setIfInBounds_toArray, List.set_cons_zero, List.set_cons_succ]
                      refine held_skip (i := 15) (d := some 87) (by kernel_rfl) (by kernel_rfl) (by kernel_rfl) (by kernel_rfl) (by kernel_rfl) (fun _ _ _ h => h) hHeld ?_
                      try simp only [Act.put, List.setIfInBounds_toArray, List.set_cons_zero, List.set_cons_succ]
                      refine held_skip (i := 16) (d := some 88) (by kernel_rfl) (by kernel_rfl) (by kernel_rfl) (by kernel_rfl) (by kernel_rfl) (fun _ _ _ h => h) hHeld ?_
                      try simp only [Act.put, List.setIfInBounds_toArray, List.set_cons_zero, List.set_cons_succ]
                      refine held_skip (i := 17) (d := some 89) (by kernel_rfl) (by kernel_rfl) (by kernel_rfl) (by kernel_rfl) (by kernel_rfl) (fun _ _ _ h => h) hHeld ?_
                      try simp only [Act.put, List.setIfInBounds_toArray, List.set_cons_zero, List.set_cons_succ]
                      refine held_skip (i := 18) (d := some 90) (by kernel_rfl) (by kernel_rfl) (by kernel_rfl) (by kernel_rfl) (by kernel_rfl) (fun _ _ _ h => h) hHeld ?_
                      try simp only [Act.put, List.setIfInBounds_toArray, List.set_cons_zero, List.set_cons_succ]
                      refine held_skip (i := 19) (d := some 91) (by kernel_rfl) (by kernel_rfl) (by kernel_rfl) (by kernel_rfl) (by kernel_rfl) (fun _ _ _ h => h) hHeld ?_
                      try simp only [Act.put, List.setIfInBounds_toArray, List.set_cons_zero, List.set_cons_succ]
                      refine held_skip (i := 20) (d := some 92) (by kernel_rfl) (by kernel_rfl) (by kernel_rfl) (by kernel_rfl) (by kernel_rfl) (fun _ _ _ h => h) hHeld ?_
                      try simp only [Act.put, List.setIfInBounds_toArray, List.set_cons_zero, List.set_cons_succ]
                      refine held_skip (i := 21) (d := some 93) (by kernel_rfl) (by kernel_rfl) (by kernel_rfl) (by kernel_rfl) (by kernel_rfl) (fun _ _ _ h => h) hHeld ?_
                      try simp only [Act.put, List.setIfInBounds_toArray, List.set_cons_zero, List.set_cons_succ]
                      refine held_take (i := 22) (d := some 94) (v := ?_) (by kernel_rfl) (by kernel_rfl) (by kernel_rfl) (by kernel_rfl) (fun _ _ _ h => h) (fun o ho => ?_) hHeld ?_
                      rotate_left
                      · simp only [List.getElem?_toArray, List.getElem?_cons_zero, List.getElem?_cons_succ, Option.some.injEq] at ho
                        subst ho
                        refine ⟨by rfl, fun w hSw => ?_⟩
                        (try dsimp only at hSw)
                        go_simp
                        try with_reducible rfl
                      try simp only [Act.put, List.setIfInBounds_toArray, List.set_cons_zero, List.set_cons_succ]
                      refine wpAnyH_done (by kernel_rfl) ?_ _
                      try simp only [List.setIfInBounds_toArray, List.set_cons_zero, List.set_cons_succ]
                      clear hHeld
                      have HFN := Lib.hid (HFF.out _ (hxw6.trans hxe))
                      go_wp2_with fail
                      refine bodyPost_ret (by simp [results, Tryz.results33, go_sem] <;> rfl) rfl ?_
                      exact HFN.out
                    exact AllReadyH.nil
                  | true =>
                    rw [hg] at HGG
                    by_cases hq : X.quota < u + m
                    · have HFF := Lib.hid (HF.out · false 0 (HJJ.out.out.bad htj.out hdx.out hX.out hu.out (.inr hq)))
                      have tq : decide (X.quota < u + m) = true := by simpa using hq
                      clear hg
                      go_upto_region 11 with fail
                      refine wp_region_held_drew (S := (fun w' => w'.cell? ⟨w.heap.size, 0, none⟩ = some (.int .i64 b.years) ∧ w'.cell? ⟨w.heap.size, 1, none⟩ = some (.slice ra b.rivers.length rc) ∧ w'.cell? ⟨w.heap.size + 1, 0, none⟩ = some (.slice (some ⟨qb, qo, none⟩) l.length lc) ∧ w'.cell? ⟨qb, qo + n * 4, none⟩ = some (.int .i64 X.river) ∧ w'.cell? ⟨qb, qo + n * 4 + 1, none⟩ = some (.int .i64 X.first) ∧ w'.cell? ⟨qb, qo + n * 4 + 2, none⟩ = some (.int .i64 X.last) ∧ w'.cell? ⟨qb, qo + n * 4 + 3, none⟩ = some (.int .i64 X.quota) ∧ w'.cell? ⟨kb, ko + j * 4, none⟩ = some (.int .i64 r) ∧ w'.cell? ⟨kb, ko + j * 4 + 1, none⟩ = some (.int .i64 lo) ∧ w'.cell? ⟨kb, ko + j * 4 + 2, none⟩ = some (.int .i64 hi) ∧ w'.cell? ⟨kb, ko + j * 4 + 3, none⟩ = some (.int .i64 m) ∧ w'.cell? ⟨w4.heap.size, n, none⟩ = some (.int .i64 (u + m)))) (by kernel_rfl) ?_ (fun hHeld => ?_)
                      · exact HS11.out _ (by repeat (first | exact hxe | exact Ext.refl _ | apply Ext.drew))
                      refine held_take (i := 0) (d := some 72) (v := ?_) (by kernel_rfl) (by kernel_rfl) (by kernel_rfl) (by kernel_rfl) (fun _ _ _ h => h) (fun o ho => ?_) hHeld ?_
                      rotate_left
                      · simp only [List.getElem?_toArray, List.getElem?_cons_zero, Option.some.injEq] at ho
                        subst ho
                        refine ⟨by rfl, fun w hSw => ?_⟩
                        (try dsimp only at hSw)
                        go_simp
                        try with_reducible rfl
                      try simp only [Act.put, List.setIfInBounds_toArray, List.set_cons_zero, List.set_cons_succ]
                      refine held_take (i := 1) (d := some 73) (v := ?_) (by kernel_rfl) (by kernel_rfl) (by kernel_rfl) (by kernel_rfl) (fun _ _ _ h => h) (fun o ho => ?_) hHeld ?_
                      rotate_left
                      · simp only [List.getElem?_toArray, List.getElem?_cons_zero, List.getElem?_cons_succ, Option.some.injEq] at ho
                        subst ho
                        refine ⟨by rfl, fun w hSw => ?_⟩
                        (try dsimp only at hSw)
                        go_simp
                        try with_reducible rfl
                      try simp only [Act.put, List.setIfInBounds_toArray, List.set_cons_zero, List.set_cons_succ]
                      refine held_take (i := 2) (d := some 74) (v := ?_) (by kernel_rfl) (by kernel_rfl) (by kernel_rfl) (by kernel_rfl) (fun _ _ _ h => h) (fun o ho => ?_) hHeld ?_
                      rotate_left
                      · simp only [List.getElem?_toArray, List.getElem?_cons_zero, List.getElem?_cons_succ, Option.some.injEq] at ho
                        subst ho
                        refine ⟨by rfl, fun w hSw => ?_⟩
                        (try dsimp only at hSw)
                        go_simp
                        try with_reducible rfl
                      try simp only [Act.put, List.setIfInBounds_toArray, List.set_cons_zero, List.set_cons_succ]
                      refine held_take (i := 3) (d := some 75) (v := ?_) (by kernel_rfl) (by kernel_rfl) (by kernel_rfl) (by kernel_rfl) (fun _ _ _ h => h) (fun o ho => ?_) hHeld ?_
                      rotate_left
                      · simp only [List.getElem?_toArray, List.getElem?_cons_zero, List.getElem?_cons_succ, Option.some.injEq] at ho
                        subst ho
                        refine ⟨by rfl, fun w hSw => ?_⟩
                        (try dsimp only at hSw)
                        go_simp
                        try with_reducible rfl
                      try simp only [Act.put, List.setIfInBounds_toArray, List.set_cons_zero, List.set_cons_succ]
                      refine held_take (i := 4) (d := some 76) (v := ?_) (by kernel_rfl) (by kernel_rfl) (by kernel_rfl) (by kernel_rfl) (fun _ _ _ h => h) (fun o ho => ?_) hHeld ?_
                      rotate_left
                      · simp only [List.getElem?_toArray, List.getElem?_cons_zero, List.getElem?_cons_succ, Option.some.injEq] at ho
                        subst ho
                        refine ⟨by rfl, fun w hSw => ?_⟩
                        (try dsimp only at hSw)
                        go_simp
                        try with_reducible rfl
                      try simp only [Act.put, List.setIfInBounds_toArray, List.set_cons_zero, List.set_cons_succ]
                      refine held_take (i := 5) (d := some 77) (v := ?_) (by kernel_rfl) (by kernel_rfl) (by kernel_rfl) (by kernel_rfl) (fun _ _ _ h => h) (fun o ho => ?_) hHeld ?_
                      rotate_left
                      · simp only [List.getElem?_toArray, List.getElem?_cons_zero, List.getElem?_cons_succ, Option.some.injEq] at ho
                        subst ho
                        refine ⟨by rfl, fun w hSw => ?_⟩
                        (try dsimp only at hSw)
                        go_simp
                        try with_reducible rfl
                      try simp only [Act.put, List.setIfInBounds_toArray, List.set_cons_zero, List.set_cons_succ]
                      refine held_take (i := 6) (d := some 78) (v := ?_) (by kernel_rfl) (by kernel_rfl) (by kernel_rfl) (by kernel_rfl) (fun _ _ _ h => h) (fun o ho => ?_) hHeld ?_
                      rotate_left
                      · simp only [List.getElem?_toArray, List.getElem?_cons_zero, List.getElem?_cons_succ, Option.some.injEq] at ho
                        subst ho
                        refine ⟨by rfl, fun w hSw => ?_⟩
                        (try dsimp only at hSw)
                        go_simp
                        try with_reducible rfl
                      try simp only [Act.put, List.setIfInBounds_toArray, List.set_cons_zero, List.set_cons_succ]
                      refine held_take (i := 7) (d := some 79) (v := ?_) (by kernel_rfl) (by kernel_rfl) (by kernel_rfl) (by kernel_rfl) (fun _ _ _ h => h) (fun o ho => ?_) hHeld ?_
                      rotate_left
                      · simp only [List.getElem?_toArray, List.getElem?_cons_zero, List.getElem?_cons_succ, Option.some.injEq] at ho
                        subst ho
                        refine ⟨by rfl, fun w hSw => ?_⟩
                        (try dsimp only at hSw)
                        go_simp
                        try with_reducible rfl
                      try simp only [Act.put, List.setIfInBounds_toArray, List.set_cons_zero, List.set_cons_succ]
                      refine held_take (i := 8) (d := some 80) (v := ?_) (by kernel_rfl) (by kernel_rfl) (by kernel_rfl) (by kernel_rfl) (fun _ _ _ h => h) (fun o ho => ?_) hHeld ?_
                      rotate_left
                      · simp only [List.getElem?_toArray, List.getElem?_cons_zero, List.getElem?_cons_succ, Option.some.injEq] at ho
                        subst ho
                        refine ⟨by rfl, fun w hSw => ?_⟩
                        (try dsimp only at hSw)
                        go_simp
                        try with_reducible rfl
                      try simp only [Act.put, List.setIfInBounds_toArray, List.set_cons_zero, List.set_cons_succ]
                      refine wpAnyH_ready (rs := [9]) (by kernel_rfl) (by simp) ?_
                      refine held_step (i := 9) (by kernel_rfl) (fun o ho K' hK => ?_) ?_
                      · simp only [List.getElem?_toArray, List.getElem?_cons_zero, List.getElem?_cons_succ, Option.some.injEq] at ho
                        subst ho
                        go_simp
                        go_at_call 78
                        refine (HGG.out _ (by repeat (first | exact Ext.refl _ | apply Ext.drew))).mono ?_
                        rintro e w7 ⟨rfl, hx7⟩
                        have hxe := (by repeat (first | exact Ext.refl _ | apply Ext.drew) : Ext w6 w6.drew).trans hx7
                        try go_simp
                        refine hK.out _ _ ?_ (fun hHeld => ?_)
                        · exact HS11.out _ (by repeat (first | exact hxe | exact Ext.refl _ | apply Ext.drew))
                        clear hK K'
                        try simp only [List.setIfInBounds_toArray, List.set_cons_zero, List.set_cons_succ]
                        refine held_take (i := 10) (d := some 82) (v := ?_) (by kernel_rfl) (by kernel_rfl) (by kernel_rfl) (by kernel_rfl) (fun _ _ _ h => h) (fun o ho => ?_) hHeld ?_
                        rotate_left
                        · simp only [List.getElem?_toArray, List.getElem?_cons_zero, List.getElem?_cons_succ, Option.some.injEq] at ho
                          subst ho
                          refine ⟨by rfl, fun w hSw => ?_⟩
                          (try dsimp only at hSw)
                          go_simp
                          try with_reducible rfl
                        try simp only [Act.put, List.setIfInBounds_toArray, List.set_cons_zero, List.set_cons_succ]
                        refine held_take (i := 11) (d := some 83) (v := ?_) (by kernel_rfl) (by kernel_rfl) (by kernel_rfl) (by kernel_rfl) (fun _ _ _ h => h) (fun o ho => ?_) hHeld ?_
                        rotate_left
                        · simp only [List.getElem?_toArray, List.getElem?_cons_zero, List.getElem?_cons_succ, Option.some.injEq] at ho
                          subst ho
                          refine ⟨by rfl, fun w hSw => ?_⟩
                          (try dsimp only at hSw)
                          go_simp
                          try with_reducible rfl
                        try simp only [Act.put, List.setIfInBounds_toArray, List.set_cons_zero, List.set_cons_succ]
                        refine held_take (i := 12) (d := some 84) (v := ?_) (by kernel_rfl) (by kernel_rfl) (by kernel_rfl) (by kernel_rfl) (fun _ _ _ h => h) (fun o ho => ?_) hHeld ?_
                        rotate_left
                        · simp only [List.getElem?_toArray, List.getElem?_cons_zero, List.getElem?_cons_succ, Option.some.injEq] at ho
                          subst ho
                          refine ⟨by rfl, fun w hSw => ?_⟩
                          (try dsimp only at hSw)
                          go_simp
                          try with_reducible rfl
                        try simp only [Act.put, List.setIfInBounds_toArray, List.set_cons_zero, List.set_cons_succ]
                        refine held_take (i := 13) (d := some 85) (v := ?_) (by kernel_rfl) (by kernel_rfl) (by kernel_rfl) (by kernel_rfl) (fun _ _ _ h => h) (fun o ho => ?_) hHeld ?_
                        rotate_left
                        · simp only [List.getElem?_toArray, List.getElem?_cons_zero, List.getElem?_cons_succ, Option.some.injEq] at ho
                          subst ho
                          refine ⟨by rfl, fun w hSw => ?_⟩
                          (try dsimp only at hSw)
                          go_simp
                          try with_reducible rfl
                        try simp only [Act.put, List.setIfInBounds_toArray, List.set_cons_zero, List.set_cons_succ]
                        refine held_take (i := 14) (d := some 86) (v := ?_) (by kernel_rfl) (by kernel_rfl) (by kernel_rfl) (by kernel_rfl) (fun _ _ _ h => h) (fun o ho => ?_) hHeld ?_
                        rotate_left
                        · simp only [List.getElem?_toArray, List.getElem?_cons_zero, List.getElem?_cons_succ, Option.some.injEq] at ho
                          subst ho
                          refine ⟨by rfl, fun w hSw => ?_⟩
                          (try dsimp only at hSw)
                          go_simp
                          try with_reducible rfl
                        try simp only [Act.put, List.setIfInBounds_toArray, List.set_cons_zero, List.set_cons_succ]
                        refine held_take (i := 15) (d := some 87) (v := ?_) (by kernel_rfl) (by kernel_rfl) (by kernel_rfl) (by kernel_rfl) (fun _ _ _ h => h) (fun o ho => ?_) hHeld ?_
                        rotate_left
                        · simp only [List.getElem?_toArray, List.getElem?_cons_zero, List.getElem?_cons_succ, Option.some.injEq] at ho
                          subst ho
                          refine ⟨by rfl, fun w hSw => ?_⟩
                          (try dsimp only at hSw)
                          go_simp
                          try with_reducible rfl
                        try simp only [Act.put, List.setIfInBounds_toArray, List.set_cons_zero, List.set_cons_succ]
                        refine held_take (i := 16) (d := some 88) (v := ?_) (by kernel_rfl) (by kernel_rfl) (by kernel_rfl) (by kernel_rfl) (fun _ _ _ h => h) (fun o ho => ?_) hHeld ?_
                        rotate_left
                        · simp only [List.getElem?_toArray, List.getElem?_cons_zero, List.getElem?_cons_succ, Option.some.injEq] at ho
                          subst ho
                          refine ⟨by rfl, fun w hSw => ?_⟩
                          (try dsimp only at hSw)
                          go_simp
                          try with_reducible rfl
                        try simp only [Act.put, List.setIfInBounds_toArray, List.set_cons_zero, List.set_cons_succ]
                        refine held_take (i := 17) (d := some 89) (v := ?_) (by kernel_rfl) (by kernel_rfl) (by kernel_rfl) (by kernel_rfl) (fun _ _ _ h => h) (fun o ho => ?_) hHeld ?_
                        rotate_left
                        · simp only [List.getElem?_toArray, List.getElem?_cons_zero, List.getElem?_cons_succ, Option.some.injEq] at ho
                          subst ho
                          refine ⟨by rfl, fun w hSw => ?_⟩
                          (try dsimp only at hSw)
                          go_simp
                          try with_reducible rfl
                        try simp only [Act.put, List.setIfInBounds_toArray, List.set_cons_zero, List.set_cons_succ]
                        refine held_take (i := 18) (d := some 90) (v := ?_) (by kernel_rfl) (by kernel_rfl) (by kernel_rfl) (by kernel_rfl) (fun _ _ _ h => h) (fun o ho => ?_) hHeld ?_
                        rotate_left
                        · simp only [List.getElem?_toArray, List.getElem?_cons_zero, List.getElem?_cons_succ, Option.some.injEq] at ho
                          subst ho
                          refine ⟨by rfl, fun w hSw => ?_⟩
                          (try dsimp only at hSw)
                          go_simp
                          try with_reducible rfl
                        try simp only [Act.put, List.setIfInBounds_toArray, List.set_cons_zero, List.set_cons_succ]
                        refine held_take (i := 19) (d := some 91) (v := ?_) (by kernel_rfl) (by kernel_rfl) (by kernel_rfl) (by kernel_rfl) (fun _ _ _ h => h) (fun o ho => ?_) hHeld ?_
                        rotate_left
                        · simp only [List.getElem?_toArray, List.getElem?_cons_zero, List.getElem?_cons_succ, Option.some.injEq] at ho
                          subst ho
                          refine ⟨by rfl, fun w hSw => ?_⟩
                          (try dsimp only at hSw)
                          go_simp
                          try with_reducible rfl
                        try simp only [Act.put, List.setIfInBounds_toArray, List.set_cons_zero, List.set_cons_succ]
                        refine held_take (i := 20) (d := some 92) (v := ?_) (by kernel_rfl) (by kernel_rfl) (by kernel_rfl) (by kernel_rfl) (fun _ _ _ h => h) (fun o ho => ?_) hHeld ?_
                        rotate_left
                        · simp only [List.getElem?_toArray, List.getElem?_cons_zero, List.getElem?_cons_succ, Option.some.injEq] at ho
                          subst ho
                          refine ⟨by rfl, fun w hSw => ?_⟩
                          (try dsimp only at hSw)
                          go_simp
                          try with_reducible rfl
                        try simp only [Act.put, List.setIfInBounds_toArray, List.set_cons_zero, List.set_cons_succ]
                        refine held_take (i := 21) (d := some 93) (v := ?_) (by kernel_rfl) (by kernel_rfl) (by kernel_rfl) (by kernel_rfl) (fun _ _ _ h => h) (fun o ho => ?_) hHeld ?_
                        rotate_left
                        · simp only [List.getElem?_toArray, List.getElem?_cons_zero, List.getElem?_cons_succ, Option.some.injEq] at ho
                          subst ho
                          refine ⟨by rfl, fun w hSw => ?_⟩
                          (try dsimp only at hSw)
                          go_simp
                          try with_reducible rfl
                        try simp only [Act.put, List.setIfInBounds_toArray, List.set_cons_zero, List.set_cons_succ]
                        refine held_take (i := 22) (d := some 94) (v := ?_) (by kernel_rfl) (by kernel_rfl) (by kernel_rfl) (by kernel_rfl) (fun _ _ _ h => h) (fun o ho => ?_) hHeld ?_
                        rotate_left
                        · simp only [List.getElem?_toArray, List.getElem?_cons_zero, List.getElem?_cons_succ, Option.some.injEq] at ho
                          subst ho
                          refine ⟨by rfl, fun w hSw => ?_⟩
                          (try dsimp only at hSw)
                          go_simp
                          try with_reducible rfl
                        try simp only [Act.put, List.setIfInBounds_toArray, List.set_cons_zero, List.set_cons_succ]
                        refine wpAnyH_done (by kernel_rfl) ?_ _
                        try simp only [List.setIfInBounds_toArray, List.set_cons_zero, List.set_cons_succ]
                        clear hHeld
                        have HFN := Lib.hid (HFF.out _ (hxw6.trans hxe))
                        go_wp2_with fail
                        refine bodyPost_ret (by simp [results, Tryz.results33, go_sem] <;> rfl) rfl ?_
                        exact HFN.out
                      exact AllReadyH.nil
                    · have HJ2 := Lib.hid (HJJ.out.out.some htj.out hdx.out hX.out hu.out hg hq ⟨hm1, hm2⟩)
                      have tq : decide (X.quota < u + m) = false := by simp; omega
                      clear hg
                      go_upto_region 11 with fail
                      refine wp_region_held_drew (S := (fun w' => w'.cell? ⟨w.heap.size, 0, none⟩ = some (.int .i64 b.years) ∧ w'.cell? ⟨w.heap.size, 1, none⟩ = some (.slice ra b.rivers.length rc) ∧ w'.cell? ⟨w.heap.size + 1, 0, none⟩ = some (.slice (some ⟨qb, qo, none⟩) l.length lc) ∧ w'.cell? ⟨qb, qo + n * 4, none⟩ = some (.int .i64 X.river) ∧ w'.cell? ⟨qb, qo + n * 4 + 1, none⟩ = some (.int .i64 X.first) ∧ w'.cell? ⟨qb, qo + n * 4 + 2, none⟩ = some (.int .i64 X.last) ∧ w'.cell? ⟨qb, qo + n * 4 + 3, none⟩ = some (.int .i64 X.quota) ∧ w'.cell? ⟨kb, ko + j * 4, none⟩ = some (.int .i64 r) ∧ w'.cell? ⟨kb, ko + j * 4 + 1, none⟩ = some (.int .i64 lo) ∧ w'.cell? ⟨kb, ko + j * 4 + 2, none⟩ = some (.int .i64 hi) ∧ w'.cell? ⟨kb, ko + j * 4 + 3, none⟩ = some (.int .i64 m) ∧ w'.cell? ⟨w4.heap.size, n, none⟩ = some (.int .i64 (u + m)))) (by kernel_rfl) ?_ (fun hHeld => ?_)
                      · exact HS11.out _ (by repeat (first | exact hxe | exact Ext.refl _ | apply Ext.drew))
                      refine held_take (i := 0) (d := some 72) (v := ?_) (by kernel_rfl) (by kernel_rfl) (by kernel_rfl) (by kernel_rfl) (fun _ _ _ h => h) (fun o ho => ?_) hHeld ?_
                      rotate_left
                      · simp only [List.getElem?_toArray, List.getElem?_cons_zero, Option.some.injEq] at ho
                        subst ho
                        refine ⟨by rfl, fun w hSw => ?_⟩
                        (try dsimp only at hSw)
                        go_simp
                        try with_reducible rfl
                      try simp only [Act.put, List.setIfInBounds_toArray, List.set_cons_zero, List.set_cons_succ]
                      refine held_take (i := 1) (d := some 73) (v := ?_) (by kernel_rfl) (by kernel_rfl) (by kernel_rfl) (by kernel_rfl) (fun _ _ _ h => h) (fun o ho => ?_) hHeld ?_
                      rotate_left
                      · simp only [List.getElem?_toArray, List.getElem?_cons_zero, List.getElem?_cons_succ, Option.some.injEq] at ho
                        subst ho
                        refine ⟨by rfl, fun w hSw => ?_⟩
                        (try dsimp only at hSw)
                        go_simp
                        try with_reducible rfl
                      try simp only [Act.put, List.setIfInBounds_toArray, List.set_cons_zero, List.set_cons_succ]
                      refine held_take (i := 2) (d := some 74) (v := ?_) (by kernel_rfl) (by kernel_rfl) (by kernel_rfl) (by kernel_rfl) (fun _ _ _ h => h) (fun o ho => ?_) hHeld ?_
                      rotate_left
                      · simp only [List.getElem?_toArray, List.getElem?_cons_zero, List.getElem?_cons_succ, Option.some.injEq] at ho
                        subst ho
                        refine ⟨by rfl, fun w hSw => ?_⟩
                        (try dsimp only at hSw)
                        go_simp
                        try with_reducible rfl
                      try simp only [Act.put, List.setIfInBounds_toArray, List.set_cons_zero, List.set_cons_succ]
                      refine held_take (i := 3) (d := some 75) (v := ?_) (by kernel_rfl) (by kernel_rfl) (by kernel_rfl) (by kernel_rfl) (fun _ _ _ h => h) (fun o ho => ?_) hHeld ?_
                      rotate_left
                      · simp only [List.getElem?_toArray, List.getElem?_cons_zero, List.getElem?_cons_succ, Option.some.injEq] at ho
                        subst ho
                        refine ⟨by rfl, fun w hSw => ?_⟩
                        (try dsimp only at hSw)
                        go_simp
                        try with_reducible rfl
                      try simp only [Act.put, List.setIfInBounds_toArray, List.set_cons_zero, List.set_cons_succ]
                      refine held_take (i := 4) (d := some 76) (v := ?_) (by kernel_rfl) (by kernel_rfl) (by kernel_rfl) (by kernel_rfl) (fun _ _ _ h => h) (fun o ho => ?_) hHeld ?_
                      rotate_left
                      · simp only [List.getElem?_toArray, List.getElem?_cons_zero, List.getElem?_cons_succ, Option.some.injEq] at ho
                        subst ho
                        refine ⟨by rfl, fun w hSw => ?_⟩
                        (try dsimp only at hSw)
                        go_simp
                        try with_reducible rfl
                      try simp only [Act.put, List.setIfInBounds_toArray, List.set_cons_zero, List.set_cons_succ]
                      refine held_take (i := 5) (d := some 77) (v := ?_) (by kernel_rfl) (by kernel_rfl) (by kernel_rfl) (by kernel_rfl) (fun _ _ _ h => h) (fun o ho => ?_) hHeld ?_
                      rotate_left
                      · simp only [List.getElem?_toArray, List.getElem?_cons_zero, List.getElem?_cons_succ, Option.some.injEq] at ho
                        subst ho
                        refine ⟨by rfl, fun w hSw => ?_⟩
                        (try dsimp only at hSw)
                        go_simp
                        try with_reducible rfl
                      try simp only [Act.put, List.setIfInBounds_toArray, List.set_cons_zero, List.set_cons_succ]
                      refine held_take (i := 6) (d := some 78) (v := ?_) (by kernel_rfl) (by kernel_rfl) (by kernel_rfl) (by kernel_rfl) (fun _ _ _ h => h) (fun o ho => ?_) hHeld ?_
                      rotate_left
                      · simp only [List.getElem?_toArray, List.getElem?_cons_zero, List.getElem?_cons_succ, Option.some.injEq] at ho
                        subst ho
                        refine ⟨by rfl, fun w hSw => ?_⟩
                        (try dsimp only at hSw)
                        go_simp
                        try with_reducible rfl
                      try simp only [Act.put, List.setIfInBounds_toArray, List.set_cons_zero, List.set_cons_succ]
                      refine held_take (i := 7) (d := some 79) (v := ?_) (by kernel_rfl) (by kernel_rfl) (by kernel_rfl) (by kernel_rfl) (fun _ _ _ h => h) (fun o ho => ?_) hHeld ?_
                      rotate_left
                      · simp only [List.getElem?_toArray, List.getElem?_cons_zero, List.getElem?_cons_succ, Option.some.injEq] at ho
                        subst ho
                        refine ⟨by rfl, fun w hSw => ?_⟩
                        (try dsimp only at hSw)
                        go_simp
                        try with_reducible rfl
                      try simp only [Act.put, List.setIfInBounds_toArray, List.set_cons_zero, List.set_cons_succ]
                      refine held_take (i := 8) (d := some 80) (v := ?_) (by kernel_rfl) (by kernel_rfl) (by kernel_rfl) (by kernel_rfl) (fun _ _ _ h => h) (fun o ho => ?_) hHeld ?_
                      rotate_left
                      · simp only [List.getElem?_toArray, List.getElem?_cons_zero, List.getElem?_cons_succ, Option.some.injEq] at ho
                        subst ho
                        refine ⟨by rfl, fun w hSw => ?_⟩
                        (try dsimp only at hSw)
                        go_simp
                        try with_reducible rfl
                      try simp only [Act.put, List.setIfInBounds_toArray, List.set_cons_zero, List.set_cons_succ]
                      refine wpAnyH_ready (rs := [9]) (by kernel_rfl) (by simp) ?_
                      refine held_step (i := 9) (by kernel_rfl) (fun o ho K' hK => ?_) ?_
                      · simp only [List.getElem?_toArray, List.getElem?_cons_zero, List.getElem?_cons_succ, Option.some.injEq] at ho
                        subst ho
                        go_simp
                        go_at_call 78
                        refine (HGG.out _ (by repeat (first | exact Ext.refl _ | apply Ext.drew))).mono ?_
                        rintro e w7 ⟨rfl, hx7⟩
                        have hxe := (by repeat (first | exact Ext.refl _ | apply Ext.drew) : Ext w6 w6.drew).trans hx7
                        try go_simp
                        refine hK.out _ _ ?_ (fun hHeld => ?_)
                        · exact HS11.out _ (by repeat (first | exact hxe | exact Ext.refl _ | apply Ext.drew))
                        clear hK K'
                        try simp only [List.setIfInBounds_toArray, List.set_cons_zero, List.set_cons_succ]
                        refine held_take (i := 10) (d := some 82) (v := ?_) (by kernel_rfl) (by kernel_rfl) (by kernel_rfl) (by kernel_rfl) (fun _ _ _ h => h) (fun o ho => ?_) hHeld ?_
                        rotate_left
                        · simp only [List.getElem?_toArray, List.getElem?_cons_zero, List.getElem?_cons_succ, Option.some.injEq] at ho
                          subst ho
                          refine ⟨by rfl, fun w hSw => ?_⟩
                          (try dsimp only at hSw)
                          go_simp
                          try with_reducible rfl
                        try simp only [Act.put, List.setIfInBounds_toArray, List.set_cons_zero, List.set_cons_succ]
                        refine held_take (i := 11) (d := some 83) (v := ?_) (by kernel_rfl) (by kernel_rfl) (by kernel_rfl) (by kernel_rfl) (fun _ _ _ h => h) (fun o ho => ?_) hHeld ?_
                        rotate_left
                        · simp only [List.getElem?_toArray, List.getElem?_cons_zero, List.getElem?_cons_succ, Option.some.injEq] at ho
                          subst ho
                          refine ⟨by rfl, fun w hSw => ?_⟩
                          (try dsimp only at hSw)
                          go_simp
                          try with_reducible rfl
                        try simp only [Act.put, List.setIfInBounds_toArray, List.set_cons_zero, List.set_cons_succ]
                        refine held_take (i := 12) (d := some 84) (v := ?_) (by kernel_rfl) (by kernel_rfl) (by kernel_rfl) (by kernel_rfl) (fun _ _ _ h => h) (fun o ho => ?_) hHeld ?_
                        rotate_left
                        · simp only [List.getElem?_toArray, List.getElem?_cons_zero, List.getElem?_cons_succ, Option.some.injEq] at ho
                          subst ho
                          refine ⟨by rfl, fun w hSw => ?_⟩
                          (try dsimp only at hSw)
                          go_simp
                          try with_reducible rfl
                        try simp only [Act.put, List.setIfInBounds_toArray, List.set_cons_zero, List.set_cons_succ]
                        refine held_take (i := 13) (d := some 85) (v := ?_) (by kernel_rfl) (by kernel_rfl) (by kernel_rfl) (by kernel_rfl) (fun _ _ _ h => h) (fun o ho => ?_) hHeld ?_
                        rotate_left
                        · simp only [List.getElem?_toArray, List.getElem?_cons_zero, List.getElem?_cons_succ, Option.some.injEq] at ho
                          subst ho
                          refine ⟨by rfl, fun w hSw => ?_⟩
                          (try dsimp only at hSw)
                          go_simp
                          try with_reducible rfl
                        try simp only [Act.put, List.setIfInBounds_toArray, List.set_cons_zero, List.set_cons_succ]
                        refine held_take (i := 14) (d := some 86) (v := ?_) (by kernel_rfl) (by kernel_rfl) (by kernel_rfl) (by kernel_rfl) (fun _ _ _ h => h) (fun o ho => ?_) hHeld ?_
                        rotate_left
                        · simp only [List.getElem?_toArray, List.getElem?_cons_zero, List.getElem?_cons_succ, Option.some.injEq] at ho
                          subst ho
                          refine ⟨by rfl, fun w hSw => ?_⟩
                          (try dsimp only at hSw)
                          go_simp
                          try with_reducible rfl
                        try simp only [Act.put, List.setIfInBounds_toArray, List.set_cons_zero, List.set_cons_succ]
                        refine held_take (i := 15) (d := some 87) (v := ?_) (by kernel_rfl) (by kernel_rfl) (by kernel_rfl) (by kernel_rfl) (fun _ _ _ h => h) (fun o ho => ?_) hHeld ?_
                        rotate_left
                        · simp only [List.getElem?_toArray, List.getElem?_cons_zero, List.getElem?_cons_succ, Option.some.injEq] at ho
                          subst ho
                          refine ⟨by rfl, fun w hSw => ?_⟩
                          (try dsimp only at hSw)
                          go_simp
                          try with_reducible rfl
                        try simp only [Act.put, List.setIfInBounds_toArray, List.set_cons_zero, List.set_cons_succ]
                        refine held_take (i := 16) (d := some 88) (v := ?_) (by kernel_rfl) (by kernel_rfl) (by kernel_rfl) (by kernel_rfl) (fun _ _ _ h => h) (fun o ho => ?_) hHeld ?_
                        rotate_left
                        · simp only [List.getElem?_toArray, List.getElem?_cons_zero, List.getElem?_cons_succ, Option.some.injEq] at ho
                          subst ho
                          refine ⟨by rfl, fun w hSw => ?_⟩
                          (try dsimp only at hSw)
                          go_simp
                          try with_reducible rfl
                        try simp only [Act.put, List.setIfInBounds_toArray, List.set_cons_zero, List.set_cons_succ]
                        refine held_take (i := 17) (d := some 89) (v := ?_) (by kernel_rfl) (by kernel_rfl) (by kernel_rfl) (by kernel_rfl) (fun _ _ _ h => h) (fun o ho => ?_) hHeld ?_
                        rotate_left
                        · simp only [List.getElem?_toArray, List.getElem?_cons_zero, List.getElem?_cons_succ, Option.some.injEq] at ho
                          subst ho
                          refine ⟨by rfl, fun w hSw => ?_⟩
                          (try dsimp only at hSw)
                          go_simp
                          try with_reducible rfl
                        try simp only [Act.put, List.setIfInBounds_toArray, List.set_cons_zero, List.set_cons_succ]
                        refine held_take (i := 18) (d := some 90) (v := ?_) (by kernel_rfl) (by kernel_rfl) (by kernel_rfl) (by kernel_rfl) (fun _ _ _ h => h) (fun o ho => ?_) hHeld ?_
                        rotate_left
                        · simp only [List.getElem?_toArray, List.getElem?_cons_zero, List.getElem?_cons_succ, Option.some.injEq] at ho
                          subst ho
                          refine ⟨by rfl, fun w hSw => ?_⟩
                          (try dsimp only at hSw)
                          go_simp
                          try with_reducible rfl
                        try simp only [Act.put, List.setIfInBounds_toArray, List.set_cons_zero, List.set_cons_succ]
                        refine held_take (i := 19) (d := some 91) (v := ?_) (by kernel_rfl) (by kernel_rfl) (by kernel_rfl) (by kernel_rfl) (fun _ _ _ h => h) (fun o ho => ?_) hHeld ?_
                        rotate_left
                        · simp only [List.getElem?_toArray, List.getElem?_cons_zero, List.getElem?_cons_succ, Option.some.injEq] at ho
                          subst ho
                          refine ⟨by rfl, fun w hSw => ?_⟩
                          (try dsimp only at hSw)
                          go_simp
                          try with_reducible rfl
                        try simp only [Act.put, List.setIfInBounds_toArray, List.set_cons_zero, List.set_cons_succ]
                        refine held_take (i := 20) (d := some 92) (v := ?_) (by kernel_rfl) (by kernel_rfl) (by kernel_rfl) (by kernel_rfl) (fun _ _ _ h => h) (fun o ho => ?_) hHeld ?_
                        rotate_left
                        · simp only [List.getElem?_toArray, List.getElem?_cons_zero, List.getElem?_cons_succ, Option.some.injEq] at ho
                          subst ho
                          refine ⟨by rfl, fun w hSw => ?_⟩
                          (try dsimp only at hSw)
                          go_simp
                          try with_reducible rfl
                        try simp only [Act.put, List.setIfInBounds_toArray, List.set_cons_zero, List.set_cons_succ]
                        refine held_take (i := 21) (d := some 93) (v := ?_) (by kernel_rfl) (by kernel_rfl) (by kernel_rfl) (by kernel_rfl) (fun _ _ _ h => h) (fun o ho => ?_) hHeld ?_
                        rotate_left
                        · simp only [List.getElem?_toArray, List.getElem?_cons_zero, List.getElem?_cons_succ, Option.some.injEq] at ho
                          subst ho
                          refine ⟨by rfl, fun w hSw => ?_⟩
                          (try dsimp only at hSw)
                          go_simp
                          try with_reducible rfl
                        try simp only [Act.put, List.setIfInBounds_toArray, List.set_cons_zero, List.set_cons_succ]
                        refine held_take (i := 22) (d := some 94) (v := ?_) (by kernel_rfl) (by kernel_rfl) (by kernel_rfl) (by kernel_rfl) (fun _ _ _ h => h) (fun o ho => ?_) hHeld ?_
                        rotate_left
                        · simp only [List.getElem?_toArray, List.getElem?_cons_zero, List.getElem?_cons_succ, Option.some.injEq] at ho
                          subst ho
                          refine ⟨by rfl, fun w hSw => ?_⟩
                          (try dsimp only at hSw)
                          go_simp
                          try with_reducible rfl
                        try simp only [Act.put, List.setIfInBounds_toArray, List.set_cons_zero, List.set_cons_succ]
                        refine wpAnyH_done (by kernel_rfl) ?_ _
                        try simp only [List.setIfInBounds_toArray, List.set_cons_zero, List.set_cons_succ]
                        clear hHeld
                        have HO7 := Lib.hid (owns_ext HOW6.out hxe)
                        go_wp2_with fail
                        go_roundw
                        case rel => exact ⟨j + 1, used.set n (u + m), rest, by omega, by go_num, by first | rfl | go_num, HJ2.out, HX6.out.trans hxe, HO7.out⟩
                        case measure => simp [intOf]; omega
                      exact AllReadyH.nil
              · have HFF := Lib.hid (HF.out wr true rest (hJ.out.done (by omega)) (hxw4.trans hx))
                have t3 : decide ((j : Int) < (d.length : Int)) = false := by simp; omega
                clear hown
                go_wp2
                refine bodyPost_ret (by simp [results, Tryz.results33, go_sem] <;> rfl) rfl ?_
                exact HFF.out
end Go.Proofs.YtabkfohbdfpdpaaGreatDoor
