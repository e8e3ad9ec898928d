/- The law RiverDeals. -/
import Derived.Test.YtabkfohbdfpdpaaGreatDoorReff
import Derived.Test.YtabkfohbdfpdpaaGreatDoorRefl
import Derived.Test.YtabkfohbdfpdpaaGreatDoorRefk
import Derived.Test.YtabkfohbdfpdpaaGreatDoorLawb
namespace Go.Proofs.YtabkfohbdfpdpaaGreatDoor
open Go.RowKit

theorem go_no (b : Book) (l : List Licence) : ∀ (ts : List Take) (ns used : List Int) (rest : Int), (dealsGo b l ts ns used rest).1 = false → (dealsGo b l ts ns used rest).2 = 0
  | [], ns, used, rest, h => by cases ns <;> cases h
  | _ :: _, [], used, rest, h => by cases h
  | t :: ts, n :: ns, used, rest, h => by
    unfold dealsGo at h ⊢
    by_cases hn : n = -1
    · rw [if_pos hn] at h ⊢; exact go_no b l ts ns used _ h
    · rw [if_neg hn] at h ⊢
      by_cases hc : goodB b (licAt l n.toNat) t = false ∨ (licAt l n.toNat).quota < used.getD n.toNat 0 + t.many
      · rw [if_pos hc]
      · rw [if_neg hc] at h ⊢; exact go_no b l ts ns _ rest h
theorem Deal_yes {bv lv tv : Value} {b : Book} {l : List Licence} {ts : List Take} {w : World} (hb : BookAt w bv b) (hl : RowOf licC w lv l) (ht : RowOf takC w tv ts) (h : dealArg b l ts = true) :
    Calls Tryz.prog 34 #[bv, lv, tv] w fun e w' => ∃ (a : Option Addr) (c : Nat), e = .returned (.tuple #[.slice a (dealOf b l ts).1.length c, .int .i64 (dealOf b l ts).2, .int .i64 0]) ∧ Ext w w' ∧ IntsAt w' (.slice a (dealOf b l ts).1.length c) (dealOf b l ts).1 :=
  (Deal_any bv lv tv b l ts w hb hl ht).mono fun e w' q => by
    obtain ⟨v, h1, h2, h3⟩ := q
    simp only [h, if_pos] at h1 h3
    obtain ⟨a, c, rfl, _⟩ := h3.open
    exact ⟨a, c, h1, h2, h3⟩
theorem Deal_not {bv lv tv : Value} {b : Book} {l : List Licence} {ts : List Take} {w : World} (hb : BookAt w bv b) (hl : RowOf licC w lv l) (ht : RowOf takC w tv ts) (h : dealArg b l ts = false) :
    Calls Tryz.prog 34 #[bv, lv, tv] w fun e w' => ∃ (a : Option Addr) (c : Nat), e = .returned (.tuple #[.slice a 0 c, .int .i64 0, .int .i64 2]) ∧ Ext w w' :=
  (Deal_any bv lv tv b l ts w hb hl ht).mono fun e w' q => by
    obtain ⟨v, h1, h2, h3⟩ := q
    rw [h] at h1 h3
    obtain ⟨a, c, rfl, _⟩ := h3.open
    exact ⟨a, c, h1, h2⟩
theorem Deals_not {bv lv tv dv : Value} {b : Book} {l : List Licence} {ts : List Take} {d : List Int} {w : World} (hb : BookAt w bv b) (hl : RowOf licC w lv l) (ht : RowOf takC w tv ts) (hd : IntsAt w dv d) (h : dealsArg b l ts d = false) :
    Calls Tryz.prog 33 #[bv, lv, tv, dv] w fun e w' => e = .returned (.tuple #[.bool false, .int .i64 0, .int .i64 2]) ∧ Ext w w' :=
  (Deals_any bv lv tv dv b l ts d w hb hl ht hd).mono fun e w' q => by
    unfold DealsRes at q
    rw [h] at q
    exact q
theorem Deals_yes {bv lv tv dv : Value} {b : Book} {l : List Licence} {ts : List Take} {d : List Int} {w : World} (hb : BookAt w bv b) (hl : RowOf licC w lv l) (ht : RowOf takC w tv ts) (hd : IntsAt w dv d) (h : dealsArg b l ts d = true) :
    Calls Tryz.prog 33 #[bv, lv, tv, dv] w fun e w' => e = .returned (.tuple #[.bool (dealsB b l ts d).1, .int .i64 (dealsB b l ts d).2, .int .i64 0]) ∧ Ext w w' :=
  (Deals_any bv lv tv dv b l ts d w hb hl ht hd).mono fun e w' q => by
    unfold DealsRes at q
    simp only [h, if_pos] at q
    exact q
set_option maxRecDepth 100000 in
set_option maxHeartbeats 8000000 in
theorem riverDeals_any (v : Value) (b : Book) (lv : Value) (l : List Licence) (tv : Value) (ts : List Take) (dv : Value) (d : List Int) (w : World) (hb : BookAt w v b) (hl : RowOf licC w lv l) (ht : RowOf takC w tv ts) (hd : IntsAt w dv d) (hT : TabOk w) :
    Calls Tryz.prog 8 #[v, lv, tv, dv] w (TrueP w) := by
  have HB := Lib.hid (LawB.of hb hT)
  have HBB := Lib.hid (fun w1 (h : Ext w w1) => hb.ext h)
  obtain ⟨ra, rc, rfl, _⟩ := hb.slice
  obtain ⟨la, lc, rfl, lc1, lc2, _⟩ := RowAt.open hl
  obtain ⟨ta, tc, rfl, tc1, tc2, _⟩ := RowAt.open ht
  obtain ⟨da, dc, rfl, dc1, dc2, _⟩ := hd.open
  have HL := Lib.hid (fun w1 (h : Ext w w1) => RowOf.ext hl h)
  have HTT := Lib.hid (fun w1 (h : Ext w w1) => RowOf.ext ht h)
  have HD := Lib.hid (fun w1 (h : Ext w w1) => IntsAt.ext hd h)
  have HST := Lib.hid (fun w1 (h : Ext w w1) => stocked_any _ _ l ts w1 (HL.out w1 h) (HTT.out w1 h))
  have HX0 := Lib.hid ((Ext.refl w).alloc _ : Ext w (w.alloc (.cells #[.int .i64 b.years, .slice ra b.rivers.length rc] 24)))
  have HS := Lib.hid (fun W (h : Ext (w.alloc (.cells #[.int .i64 b.years, .slice ra b.rivers.length rc] 24)) W) => (⟨h.cell (by go_simp), h.cell (by go_simp)⟩ : W.cell? ⟨w.heap.size, 0, none⟩ = some (.int .i64 b.years) ∧ W.cell? ⟨w.heap.size, 1, none⟩ = some (.slice ra b.rivers.length rc)))
  clear hb hT hl ht hd
  cases h1 : slimB b with
  | false =>
    go_enter Tryz.func8, Tryz.ntmps8
    go_wp2_with (first | (go_at_call 11; refine (HB.out.slim _ HX0.out).mono ?_; rintro e w1 ⟨rfl, hq⟩; obtain ⟨z0, z1⟩ := HS.out _ hq) | (go_at_call 16; refine (HB.out.known _ (HX0.out.trans hq)).mono ?_; rintro e w4 ⟨rfl, hx4⟩))
    go_ret
    exact ⟨rfl, (HX0.out.trans hq).trans hx4⟩
  | true =>
    cases h2 : stockedB l ts with
    | false =>
      rw [h2] at HST
      go_enter Tryz.func8, Tryz.ntmps8
      go_wp2_with (first | (go_at_call 11; refine (HB.out.slim _ HX0.out).mono ?_; rintro e w1 ⟨rfl, hq⟩; obtain ⟨z0, z1⟩ := HS.out _ hq) | (go_at_call 32; refine (HST.out _ (HX0.out.trans hq)).mono ?_; rintro e w' ⟨rfl, rfl⟩) | (go_at_call 16; refine (HB.out.known _ (HX0.out.trans hq)).mono ?_; rintro e w4 ⟨rfl, hx4⟩))
      go_ret
      exact ⟨rfl, (HX0.out.trans hq).trans hx4⟩
    | true =>
      rw [h2] at HST
      by_cases h3 : 9 < d.length
      · have t3 : decide ((9 : Int) < (d.length : Int)) = true := by simp; omega
        go_enter Tryz.func8, Tryz.ntmps8
        go_wp2_with (first | (go_at_call 11; refine (HB.out.slim _ HX0.out).mono ?_; rintro e w1 ⟨rfl, hq⟩; obtain ⟨z0, z1⟩ := HS.out _ hq) | (go_at_call 32; refine (HST.out _ (HX0.out.trans hq)).mono ?_; rintro e w' ⟨rfl, rfl⟩) | (go_at_call 16; refine (HB.out.known _ (HX0.out.trans hq)).mono ?_; rintro e w4 ⟨rfl, hx4⟩))
        go_ret
        exact ⟨rfl, (HX0.out.trans hq).trans hx4⟩
      · have t3 : decide ((9 : Int) < (d.length : Int)) = false := by simp; omega
        cases h4 : isBookB b with
        | false =>
          have harg : dealArg b l ts = false := by unfold dealArg; rw [h4]; simp
          have hargs : dealsArg b l ts d = false := by unfold dealsArg; rw [harg]; rfl
          have HDS := Lib.hid (fun w1 (h : Ext w w1) => Deals_not (HBB.out w1 h) (HL.out w1 h) (HTT.out w1 h) (HD.out w1 h) hargs)
          have HDE := Lib.hid (fun w1 (h : Ext w w1) => Deal_not (HBB.out w1 h) (HL.out w1 h) (HTT.out w1 h) harg)
          clear harg hargs
          go_enter Tryz.func8, Tryz.ntmps8
          go_wp2_with (first | (go_at_call 11; refine (HB.out.slim _ HX0.out).mono ?_; rintro e w1 ⟨rfl, hq⟩; obtain ⟨z0, z1⟩ := HS.out _ hq) | (go_at_call 32; refine (HST.out _ (HX0.out.trans hq)).mono ?_; rintro e w' ⟨rfl, rfl⟩) | (go_at_call 33; refine (HDS.out _ (HX0.out.trans hq)).mono ?_; rintro e w1 ⟨rfl, hx1⟩; replace hq := hq.trans hx1; clear hx1 z0 z1; obtain ⟨z0, z1⟩ := HS.out _ hq) | (go_at_call 34; refine (HDE.out _ (HX0.out.trans hq)).mono ?_; rintro e w1 ⟨a1, c1, rfl, hx1⟩; replace hq := hq.trans hx1; clear hx1 z0 z1; obtain ⟨z0, z1⟩ := HS.out _ hq) | (go_at_call 12; refine (HB.out.book _ (HX0.out.trans hq)).mono ?_; rintro e w1 ⟨rfl, hx1⟩; replace hq := hq.trans hx1; clear hx1 z0 z1; obtain ⟨z0, z1⟩ := HS.out _ hq) | (go_at_call 16; refine (HB.out.known _ (HX0.out.trans hq)).mono ?_; rintro e w4 ⟨rfl, hx4⟩))
          go_ret
          exact ⟨rfl, (HX0.out.trans hq).trans hx4⟩
        | true =>
          have HBO := Lib.hid (bookB_of h4)
          have HLC := Lib.hid (fun w1 (h : Ext w w1) => rlics_any _ _ b l w1 (HBB.out w1 h) HBO.out (HL.out w1 h))
          have HTK := Lib.hid (fun w1 (h : Ext w w1) => rtaks_any _ _ b ts w1 (HBB.out w1 h) HBO.out (HTT.out w1 h))
          cases h5 : areLicencesB b l with
          | false =>
            rw [h5] at HLC
            have harg : dealArg b l ts = false := by unfold dealArg; rw [h5]; simp
            have hargs : dealsArg b l ts d = false := by unfold dealsArg; rw [harg]; rfl
            have HDS := Lib.hid (fun w1 (h : Ext w w1) => Deals_not (HBB.out w1 h) (HL.out w1 h) (HTT.out w1 h) (HD.out w1 h) hargs)
            have HDE := Lib.hid (fun w1 (h : Ext w w1) => Deal_not (HBB.out w1 h) (HL.out w1 h) (HTT.out w1 h) harg)
            clear harg hargs
            go_enter Tryz.func8, Tryz.ntmps8
            go_wp2_with (first | (go_at_call 11; refine (HB.out.slim _ HX0.out).mono ?_; rintro e w1 ⟨rfl, hq⟩; obtain ⟨z0, z1⟩ := HS.out _ hq) | (go_at_call 32; refine (HST.out _ (HX0.out.trans hq)).mono ?_; rintro e w' ⟨rfl, rfl⟩) | (go_at_call 33; refine (HDS.out _ (HX0.out.trans hq)).mono ?_; rintro e w1 ⟨rfl, hx1⟩; replace hq := hq.trans hx1; clear hx1 z0 z1; obtain ⟨z0, z1⟩ := HS.out _ hq) | (go_at_call 34; refine (HDE.out _ (HX0.out.trans hq)).mono ?_; rintro e w1 ⟨a1, c1, rfl, hx1⟩; replace hq := hq.trans hx1; clear hx1 z0 z1; obtain ⟨z0, z1⟩ := HS.out _ hq) | (go_at_call 12; refine (HB.out.book _ (HX0.out.trans hq)).mono ?_; rintro e w1 ⟨rfl, hx1⟩; replace hq := hq.trans hx1; clear hx1 z0 z1; obtain ⟨z0, z1⟩ := HS.out _ hq) | (go_at_call 35; refine (HLC.out _ (HX0.out.trans hq)).mono ?_; rintro e w1 ⟨rfl, hx1⟩; replace hq := hq.trans hx1; clear hx1 z0 z1; obtain ⟨z0, z1⟩ := HS.out _ hq) | (go_at_call 16; refine (HB.out.known _ (HX0.out.trans hq)).mono ?_; rintro e w4 ⟨rfl, hx4⟩))
            go_ret
            exact ⟨rfl, (HX0.out.trans hq).trans hx4⟩
          | true =>
            rw [h5] at HLC
            cases h6 : areTakesB b ts with
            | false =>
              rw [h6] at HTK
              have harg : dealArg b l ts = false := by unfold dealArg; rw [h6]; simp
              have hargs : dealsArg b l ts d = false := by unfold dealsArg; rw [harg]; rfl
              have HDS := Lib.hid (fun w1 (h : Ext w w1) => Deals_not (HBB.out w1 h) (HL.out w1 h) (HTT.out w1 h) (HD.out w1 h) hargs)
              have HDE := Lib.hid (fun w1 (h : Ext w w1) => Deal_not (HBB.out w1 h) (HL.out w1 h) (HTT.out w1 h) harg)
              clear harg hargs
              go_enter Tryz.func8, Tryz.ntmps8
              go_wp2_with (first | (go_at_call 11; refine (HB.out.slim _ HX0.out).mono ?_; rintro e w1 ⟨rfl, hq⟩; obtain ⟨z0, z1⟩ := HS.out _ hq) | (go_at_call 32; refine (HST.out _ (HX0.out.trans hq)).mono ?_; rintro e w' ⟨rfl, rfl⟩) | (go_at_call 33; refine (HDS.out _ (HX0.out.trans hq)).mono ?_; rintro e w1 ⟨rfl, hx1⟩; replace hq := hq.trans hx1; clear hx1 z0 z1; obtain ⟨z0, z1⟩ := HS.out _ hq) | (go_at_call 34; refine (HDE.out _ (HX0.out.trans hq)).mono ?_; rintro e w1 ⟨a1, c1, rfl, hx1⟩; replace hq := hq.trans hx1; clear hx1 z0 z1; obtain ⟨z0, z1⟩ := HS.out _ hq) | (go_at_call 12; refine (HB.out.book _ (HX0.out.trans hq)).mono ?_; rintro e w1 ⟨rfl, hx1⟩; replace hq := hq.trans hx1; clear hx1 z0 z1; obtain ⟨z0, z1⟩ := HS.out _ hq) | (go_at_call 35; refine (HLC.out _ (HX0.out.trans hq)).mono ?_; rintro e w1 ⟨rfl, hx1⟩; replace hq := hq.trans hx1; clear hx1 z0 z1; obtain ⟨z0, z1⟩ := HS.out _ hq) | (go_at_call 36; refine (HTK.out _ (HX0.out.trans hq)).mono ?_; rintro e w1 ⟨rfl, hx1⟩; replace hq := hq.trans hx1; clear hx1 z0 z1; obtain ⟨z0, z1⟩ := HS.out _ hq) | (go_at_call 16; refine (HB.out.known _ (HX0.out.trans hq)).mono ?_; rintro e w4 ⟨rfl, hx4⟩))
              go_ret
              exact ⟨rfl, (HX0.out.trans hq).trans hx4⟩
            | true =>
              rw [h6] at HTK
              have hll := (licencesB_of h5).1
              have htl := (takesB_of h6).1
              have HTB := Lib.hid (takesB_of h6).2
              have hq0 : ∀ x, x ∈ l → 0 ≤ x.quota := fun x hx => ((licencesB_of h5).2 x hx).q.1
              have hm0 : ∀ t, t ∈ ts → 0 ≤ t.many := fun t ht => (HTB.out t ht).m.1
              have harg : dealArg b l ts = true := by unfold dealArg; rw [h4, h5, h6]; rfl
              have hbd := dealOf_best b l ts
              have HDE := Lib.hid (fun w1 (h : Ext w w1) => Deal_yes (HBB.out w1 h) (HL.out w1 h) (HTT.out w1 h) harg)
              have HRF := Lib.hid (fun w1 (h : Ext w w1) => rDeal_any _ _ _ b l ts w1 (HBB.out w1 h) HBO.out (HL.out w1 h) (HTT.out w1 h) HTB.out htl hll hq0)
              have HLI := Lib.hid (fun w1 (h : Ext w w1) => rlist_any _ _ _ l ts d w1 (HL.out w1 h) (HTT.out w1 h) (HD.out w1 h) (by omega))
              have hyr : restTo ts (dealOf b l ts).1 (dealOf b l ts).1.length = (dealOf b l ts).2 := by
                have h1 : (dealsB b l ts (dealOf b l ts).1).1 = true := by rw [hbd.go]
                have h2 := go_rest b l ts _ _ _ h1 hbd.ok
                have h3 : (dealsB b l ts (dealOf b l ts).1).2 = (dealOf b l ts).2 := by rw [hbd.go]
                rw [restTo_all, ← h3]; unfold dealsB; rw [h2, Int.zero_add]
              have HRY := Lib.hid (fun w1 v1 (h : Ext w w1) (hv : IntsAt w1 v1 (dealOf b l ts).1) => rrest_any _ _ ts (dealOf b l ts).1 w1 (HTT.out w1 h) hv (by rw [hbd.len]; exact Nat.le_refl _) (fun t ht => (HTB.out t ht).m) (by omega))
              rw [hyr] at HRY
              cases h7 : (decide (d.length = ts.length) && dealOkB l d) with
              | false =>
                rw [h7] at HLI
                have hargs : dealsArg b l ts d = false := by unfold dealsArg; rw [Bool.and_assoc, h7, Bool.and_false]
                have HDS := Lib.hid (fun w1 (h : Ext w w1) => Deals_not (HBB.out w1 h) (HL.out w1 h) (HTT.out w1 h) (HD.out w1 h) hargs)
                clear harg hargs hbd hyr h7 hq0 hm0
                generalize dealOf b l ts = y at *
                obtain ⟨y1, y2⟩ := y
                simp only at *
                go_enter Tryz.func8, Tryz.ntmps8
                go_upto_region 4 with (first | (go_at_call 11; refine (HB.out.slim _ HX0.out).mono ?_; rintro e w1 ⟨rfl, hq⟩; obtain ⟨z0, z1⟩ := HS.out _ hq) | (go_at_call 32; refine (HST.out _ (HX0.out.trans hq)).mono ?_; rintro e w' ⟨rfl, rfl⟩) | (go_at_call 33; refine (HDS.out _ (HX0.out.trans hq)).mono ?_; rintro e w1 ⟨rfl, hx1⟩; replace hq := hq.trans hx1; clear hx1 z0 z1; obtain ⟨z0, z1⟩ := HS.out _ hq))
                go_upto_region 5 with (go_at_call 34; refine (HDE.out _ (HX0.out.trans hq)).mono ?_; rintro e w1 ⟨a1, c1, rfl, hx1, hv1⟩; replace hq := hq.trans hx1; clear hx1 z0 z1; obtain ⟨z0, z1⟩ := HS.out _ hq)
                have HV1 := Lib.hid (fun W (h : Ext w1 W) => IntsAt.ext hv1 h)
                have HX1 := Lib.hid (HX0.out.trans hq)
                have HS1 := Lib.hid (fun W (h : Ext w1 W) => HS.out W (hq.trans h))
                clear hv1
                have hk := Ext.refl w1
                clear hq
                go_upto_region 8 with (first | (go_at_call 12; refine (HB.out.book _ (HX1.out.trans hk)).mono ?_; rintro e w2 ⟨rfl, hx1⟩; replace hk := hk.trans hx1; clear hx1 z0 z1; obtain ⟨z0, z1⟩ := HS1.out _ hk) | (go_at_call 35; refine (HLC.out _ (HX1.out.trans hk)).mono ?_; rintro e w2 ⟨rfl, hx1⟩; replace hk := hk.trans hx1; clear hx1 z0 z1; obtain ⟨z0, z1⟩ := HS1.out _ hk) | (go_at_call 36; refine (HTK.out _ (HX1.out.trans hk)).mono ?_; rintro e w2 ⟨rfl, hx1⟩; replace hk := hk.trans hx1; clear hx1 z0 z1; obtain ⟨z0, z1⟩ := HS1.out _ hk) | (go_at_call 37; refine (HRF.out _ (HX1.out.trans hk)).mono ?_; rintro e w5 ⟨a5, c5, rfl, hx1, hv5⟩; replace hk := hk.trans hx1; clear hx1 z0 z1; obtain ⟨z0, z1⟩ := HS1.out _ hk))
                have HV5 := Lib.hid (fun W (h : Ext w5 W) => IntsAt.ext hv5 h)
                have HX5 := Lib.hid (HX1.out.trans hk)
                have HK5 := Lib.hid hk
                have HS5 := Lib.hid (fun W (h : Ext w5 W) => HS1.out W (hk.trans h))
                clear hv5 hk
                have hk := Ext.refl w5
                go_upto_region 10 with (first | (go_at_call 38; refine (same_yes _ _ _ _ (HV1.out _ (HK5.out.trans hk)) (HV5.out _ hk)).mono ?_; rintro e w6 ⟨rfl, hx1⟩; replace hk := hk.trans hx1; clear hx1 z0 z1; obtain ⟨z0, z1⟩ := HS5.out _ hk) | (go_at_call 39; refine (HRY.out _ _ (HX5.out.trans hk) (HV5.out _ hk)).mono ?_; rintro e w6 ⟨rfl, hx1⟩; replace hk := hk.trans hx1; clear hx1 z0 z1; obtain ⟨z0, z1⟩ := HS5.out _ hk))
                go_wp2_with (first | (go_at_call 40; refine (HLI.out _ (HX5.out.trans hk)).mono ?_; rintro e w7 ⟨rfl, hx1⟩; replace hk := hk.trans hx1; clear hx1 z0 z1; obtain ⟨z0, z1⟩ := HS5.out _ hk) | (go_at_call 16; refine (HB.out.known _ (HX5.out.trans hk)).mono ?_; rintro e w9 ⟨rfl, hx9⟩))
                go_ret
                exact ⟨rfl, (HX5.out.trans hk).trans hx9⟩
              | true =>
                rw [h7] at HLI
                have h77 := h7
                rw [Bool.and_eq_true, decide_eq_true_eq] at h77
                have hargs : dealsArg b l ts d = true := by unfold dealsArg; rw [harg, Bool.true_and]; exact h7
                have HDS := Lib.hid (fun w1 (h : Ext w w1) => Deals_yes (HBB.out w1 h) (HL.out w1 h) (HTT.out w1 h) (HD.out w1 h) hargs)
                have HRD := Lib.hid (fun w1 (h : Ext w w1) => rdeals_any _ _ _ _ b l ts d w1 (HBB.out w1 h) HBO.out (HL.out w1 h) (HTT.out w1 h) (HD.out w1 h) HTB.out htl (by rw [h77.1]; exact Nat.le_refl _))
                rw [rdeals_eq hm0 hq0 h77.2] at HRD
                have HRE := Lib.hid (fun w1 (h : Ext w w1) => rrest_any _ _ ts d w1 (HTT.out w1 h) (HD.out w1 h) (by rw [h77.1]; exact Nat.le_refl _) (fun t ht => (HTB.out t ht).m) (by omega))
                rw [restTo_all] at HRE
                have hgn : (dealsB b l ts d).1 = false → (dealsB b l ts d).2 = 0 := go_no b l ts d _ _
                have hgy : (dealsB b l ts d).1 = true → (dealsB b l ts d).2 = restOf ts d := fun h => by
                  have := go_rest b l ts d _ _ h h77.2
                  unfold dealsB; rw [this, Int.zero_add]
                clear harg hargs hbd hyr h7 h77 hq0 hm0
                generalize dealOf b l ts = y at *
                generalize dealsB b l ts d = r at *
                obtain ⟨y1, y2⟩ := y
                obtain ⟨rx, rm⟩ := r
                simp only at *
                have HGG := Lib.hid (And.intro hgn hgy)
                clear hgn hgy
                go_enter Tryz.func8, Tryz.ntmps8
                go_upto_region 4 with (first | (go_at_call 11; refine (HB.out.slim _ HX0.out).mono ?_; rintro e w1 ⟨rfl, hq⟩; obtain ⟨z0, z1⟩ := HS.out _ hq) | (go_at_call 32; refine (HST.out _ (HX0.out.trans hq)).mono ?_; rintro e w' ⟨rfl, rfl⟩) | (go_at_call 33; refine (HDS.out _ (HX0.out.trans hq)).mono ?_; rintro e w1 ⟨rfl, hx1⟩; replace hq := hq.trans hx1; clear hx1 z0 z1; obtain ⟨z0, z1⟩ := HS.out _ hq))
                go_upto_region 5 with (go_at_call 34; refine (HDE.out _ (HX0.out.trans hq)).mono ?_; rintro e w1 ⟨a1, c1, rfl, hx1, hv1⟩; replace hq := hq.trans hx1; clear hx1 z0 z1; obtain ⟨z0, z1⟩ := HS.out _ hq)
                have HV1 := Lib.hid (fun W (h : Ext w1 W) => IntsAt.ext hv1 h)
                have HX1 := Lib.hid (HX0.out.trans hq)
                have HS1 := Lib.hid (fun W (h : Ext w1 W) => HS.out W (hq.trans h))
                clear hv1
                have hk := Ext.refl w1
                clear hq
                go_upto_region 8 with (first | (go_at_call 12; refine (HB.out.book _ (HX1.out.trans hk)).mono ?_; rintro e w2 ⟨rfl, hx1⟩; replace hk := hk.trans hx1; clear hx1 z0 z1; obtain ⟨z0, z1⟩ := HS1.out _ hk) | (go_at_call 35; refine (HLC.out _ (HX1.out.trans hk)).mono ?_; rintro e w2 ⟨rfl, hx1⟩; replace hk := hk.trans hx1; clear hx1 z0 z1; obtain ⟨z0, z1⟩ := HS1.out _ hk) | (go_at_call 36; refine (HTK.out _ (HX1.out.trans hk)).mono ?_; rintro e w2 ⟨rfl, hx1⟩; replace hk := hk.trans hx1; clear hx1 z0 z1; obtain ⟨z0, z1⟩ := HS1.out _ hk) | (go_at_call 37; refine (HRF.out _ (HX1.out.trans hk)).mono ?_; rintro e w5 ⟨a5, c5, rfl, hx1, hv5⟩; replace hk := hk.trans hx1; clear hx1 z0 z1; obtain ⟨z0, z1⟩ := HS1.out _ hk))
                have HV5 := Lib.hid (fun W (h : Ext w5 W) => IntsAt.ext hv5 h)
                have HX5 := Lib.hid (HX1.out.trans hk)
                have HK5 := Lib.hid hk
                have HS5 := Lib.hid (fun W (h : Ext w5 W) => HS1.out W (hk.trans h))
                clear hv5 hk
                have hk := Ext.refl w5
                go_upto_region 10 with (first | (go_at_call 38; refine (same_yes _ _ _ _ (HV1.out _ (HK5.out.trans hk)) (HV5.out _ hk)).mono ?_; rintro e w6 ⟨rfl, hx1⟩; replace hk := hk.trans hx1; clear hx1 z0 z1; obtain ⟨z0, z1⟩ := HS5.out _ hk) | (go_at_call 39; refine (HRY.out _ _ (HX5.out.trans hk) (HV5.out _ hk)).mono ?_; rintro e w6 ⟨rfl, hx1⟩; replace hk := hk.trans hx1; clear hx1 z0 z1; obtain ⟨z0, z1⟩ := HS5.out _ hk))
                cases rx with
                | false =>
                  obtain rfl := HGG.out.1 rfl
                  go_wp2_with (first | (go_at_call 40; refine (HLI.out _ (HX5.out.trans hk)).mono ?_; rintro e w7 ⟨rfl, hx1⟩; replace hk := hk.trans hx1; clear hx1 z0 z1; obtain ⟨z0, z1⟩ := HS5.out _ hk) | (go_at_call 41; refine (HRD.out _ (HX5.out.trans hk)).mono ?_; rintro e w7 ⟨rfl, hx1⟩; replace hk := hk.trans hx1; clear hx1 z0 z1; obtain ⟨z0, z1⟩ := HS5.out _ hk) | (go_at_call 16; refine (HB.out.known _ (HX5.out.trans hk)).mono ?_; rintro e w9 ⟨rfl, hx9⟩))
                  go_ret
                  exact ⟨rfl, (HX5.out.trans hk).trans hx9⟩
                | true =>
                  obtain rfl := HGG.out.2 rfl
                  go_wp2_with (first | (go_at_call 40; refine (HLI.out _ (HX5.out.trans hk)).mono ?_; rintro e w7 ⟨rfl, hx1⟩; replace hk := hk.trans hx1; clear hx1 z0 z1; obtain ⟨z0, z1⟩ := HS5.out _ hk) | (go_at_call 41; refine (HRD.out _ (HX5.out.trans hk)).mono ?_; rintro e w7 ⟨rfl, hx1⟩; replace hk := hk.trans hx1; clear hx1 z0 z1; obtain ⟨z0, z1⟩ := HS5.out _ hk) | (go_at_call 39; refine (HRE.out _ (HX5.out.trans hk)).mono ?_; rintro e w7 ⟨rfl, hx1⟩; replace hk := hk.trans hx1; clear hx1 z0 z1; obtain ⟨z0, z1⟩ := HS5.out _ hk) | (go_at_call 16; refine (HB.out.known _ (HX5.out.trans hk)).mono ?_; rintro e w9 ⟨rfl, hx9⟩))
                  go_ret
                  exact ⟨rfl, (HX5.out.trans hk).trans hx9⟩
end Go.Proofs.YtabkfohbdfpdpaaGreatDoor
