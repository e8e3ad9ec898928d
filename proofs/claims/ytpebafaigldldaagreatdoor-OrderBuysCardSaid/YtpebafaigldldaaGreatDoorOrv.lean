/- Purchases as the reference has them: bought, Costs, From, Sooner, Preferred. -/
import Derived.Test.YtpebafaigldldaaGreatDoorRsz
import Derived.Test.YtpebafaigldldaaGreatDoorOlc
import Derived.Test.YtpebafaigldldaaGreatDoorOrf
import Derived.Test.YtpebafaigldldaaGreatDoorOcs
namespace Go.Proofs.YtpebafaigldldaaGreatDoor
open Go.RowKit
theorem rbought_any (v : Value) (r : List Int) (w : World) (hv : IntsAt w v r) : Calls Tryz.prog 90 #[v] w fun e w' => e = .returned (.bool (r.any fun x => decide (0 < x))) ∧ w = w' := by
 obtain ⟨a, c, rfl, l1, l2, l3⟩ := hv.open
 have HL3 := Lib.hid l3
 clear l3 hv
 go_enter Tryz.func90, Tryz.ntmps90
 go_wp2
 go_loop [3] (fun i => ∃ k : Nat, k ≤ r.length ∧ i = .int .i64 (k : Int) ∧ Hid ((r.take k).any (fun x => decide (0 < x)) = false)) (fun i => r.length - (intOf i).toNat)
 case atStart => exact ⟨0, Nat.zero_le _, rfl, by simp [Hid]⟩
 case round =>
  obtain ⟨k, hk, rfl, ha⟩ := hrel
  by_cases hlt : k < r.length
  ·obtain ⟨b, o, p, rfl, hpk, c0⟩ := HL3.out k hlt
   have k1 : (0 : Int) ≤ (k : Int) := by omega
   have k2 : (k : Int) < (r.length : Int) := by omega
   cases i1 : decide (0 < p) with
   | true =>
    have HR : Hid ((r.any fun x => decide (0 < x)) = true) := any_at hpk.out (show (fun x => decide (0 < x)) p = true from i1)
    clear ha hpk
    go_wp2
    go_ret
    exact ⟨by rw [HR.out] <;> rfl, rfl⟩
   | false =>
    have HA := Lib.hid (any_take hpk.out ha.out (show (fun x => decide (0 < x)) p = false from i1))
    clear ha hpk
    go_wp2
    go_round
    case rel => exact ⟨k + 1, by omega, by go_num, HA.out⟩
    case measure => simp [intOf]; omega
  ·have ha2 := ha.out
   rw [List.take_of_length_le (by omega)] at ha2
   have HR := Lib.hid ha2
   clear ha ha2
   go_wp2
   go_ret
   exact ⟨by rw [HR.out] <;> rfl, rfl⟩
theorem purch_row {ls : List Seller} {wants : List Int} {p : List (List Int)} (hS : SellersB ls wants) (hp : PurchaseB ls wants p) {i : Nat} {s : Seller} {r : List Int} (hs : ls[i]? = some s) (hr : p[i]? = some r) : r.length = wants.length ∧ ∀ x, x ∈ r → 0 ≤ x ∧ x ≤ 100 := by
 obtain ⟨h1, h2⟩ := hp.row i s r hs hr
 refine ⟨h1, fun x hx => ?_⟩
 obtain ⟨g, hg⟩ := List.getElem?_of_mem hx
 have hgl : g < r.length := (List.getElem?_eq_some_iff.1 hg).1
 have h3 := h2 g (by omega)
 rw [List.getD_eq_getElem?_getD, hg] at h3
 have hso := hS.one s (List.mem_of_getElem? hs)
 have h4 : s.stock.getD g 0 ≤ 100 := by
  rw [List.getD_eq_getElem?_getD, List.getElem?_eq_getElem (by omega)]
  exact (hso.2.2.2.1 _ (List.getElem_mem _)).2
 simp at h3
 rw [List.getD_eq_getElem?_getD] at h4
 omega
set_option maxRecDepth 100000 in
set_option maxHeartbeats 8000000 in
theorem rcosts_any (lv pv : Value) (ls : List Seller) (wants : List Int) (plan : List (List Int)) (w : World) (hS : SellersB ls wants) (hP : PurchaseB ls wants plan) (hl : SellersAt w lv ls) (hp : IntRowsAt w pv plan) :
 Calls Tryz.prog 38 #[lv, pv] w fun e w' => e = .returned (.int .i64 (costsB ls plan)) ∧ Ext w w' := by
 have hmix : Tryz.prog.follows .mixedOrders = true := by kernel_rfl
 obtain ⟨la, lc, rfl, hl1, hl2, hl3⟩ := hl.open
 obtain ⟨pa, pc, rfl, hp1, hp2, hp3⟩ := hp.open
 have HL3 := Lib.hid hl3
 have HP3 := Lib.hid hp3
 have HS := Lib.hid hS
 have HP := Lib.hid hP
 have hlen := hP.len
 have hn4 := hS.l4
 have hn5 := hS.w5
 clear hl hp hl3 hp3 hS hP
 have HLEN := Lib.hid hlen
 clear hlen
 go_enter Tryz.func38, Tryz.ntmps38
 go_wp2
 go_loopw [5, 6] (fun o j wr => ∃ i : Nat, i ≤ plan.length ∧ j = .int .i64 (i : Int) ∧ o = .int .i64 (costsB ls (plan.take i)) ∧ Hid (0 ≤ costsB ls (plan.take i) ∧ costsB ls (plan.take i) ≤ 501000 * i) ∧ Ext w wr) (fun _ j _ => plan.length - (intOf j).toNat)
 case atStart => exact ⟨0, Nat.zero_le _, rfl, by rw [List.take_zero]; cases ls <;> rfl, by rw [List.take_zero]; cases ls <;> simp [Hid, costsB], Ext.refl _⟩
 case round =>
  obtain ⟨i, hi, rfl, rfl, hbd, hx⟩ := hrel
  have hlen := HLEN.out
  by_cases hlt : i < plan.length
  ·obtain ⟨pb, po, r, ra, rc, rfl, hrk, d0, hri, hr1, hr2⟩ := HP3.out i hlt
   obtain ⟨lb, lo, s, sa, sc, qa, qc, rfl, hsk, e0, e1, e2, hst, hpr⟩ := HL3.out i (by omega)
   have hso := HS.out.one s (List.mem_of_getElem? hsk.out)
   obtain ⟨hrl, hrx⟩ := purch_row HS.out HP.out hsk.out hrk.out
   have i1 : (0 : Int) ≤ (i : Int) := by omega
   have i2 : (i : Int) < (plan.length : Int) := by omega
   have i3 : (i : Int) < (ls.length : Int) := by omega
   have hi4 : i < 4 := by omega
   obtain ⟨C, hC⟩ : ∃ C, costsB ls (plan.take i) = C := ⟨_, rfl⟩
   have HCT := Lib.hid (costs_take hsk.out hrk.out)
   rw [hC] at hbd HCT
   rw [hC]
   have HBD := Lib.hid hbd.out
   have HSO := Lib.hid hso
   have HRL := Lib.hid hrl
   have HRX := Lib.hid hrx
   have HBO := Lib.hid (fun W1 (h : Ext w W1) => rbought_any _ r W1 (hri.ext h))
   have HBS := Lib.hid (bought_sum (r := r) fun x hx => (hrx x hx).1)
   have HD := Lib.hid (fun (W1 : World) (h : Ext w W1) => (⟨h.cell d0, h.cell e0, h.cell e1, h.cell e2⟩ : _ ∧ _ ∧ _ ∧ _))
   obtain ⟨_, _, hve, _, _, hr3⟩ := hri.open
   cases hve
   obtain ⟨_, _, hve, _, _, hq3⟩ := hpr.open
   cases hve
   have HR3 := Lib.hid hr3
   have HQ3 := Lib.hid hq3
   have HX := Lib.hid hx
   have x1 : decide ((i : Int) < (plan.length : Int)) = true := by simpa using hlt
   clear hbd hx hC d0 e0 e1 e2 hst hpr hri hso hr3 hq3 hrl hrx hrk hsk hlen
   go_wp2
   obtain ⟨wo, rfl⟩ : ∃ wo : World, wo = wr := ⟨_, rfl⟩
   go_loopw [5, 7] (fun o j wz => ∃ k : Nat, k ≤ r.length ∧ j = .int .i64 (k : Int) ∧ o = .int .i64 (C + dotL (r.take k) s.price) ∧ Ext w wz) (fun _ j _ => r.length - (intOf j).toNat)
   case atStart => exact ⟨0, Nat.zero_le _, rfl, by simp [dotL], HX.out⟩
   case round =>
    obtain ⟨k, hk, rfl, rfl, hx⟩ := hrel
    have hrl := HRL.out
    have hql := HSO.out.2.2.1
    obtain ⟨d0, e0, e1, e2⟩ := HD.out _ hx
    by_cases hlt2 : k < r.length
    ·obtain ⟨rb, ro, x, rfl, hxk, c0⟩ := HR3.out k hlt2
     obtain ⟨qb, qo, z, rfl, hzk, c2⟩ := HQ3.out k (by omega)
     have k1 : (0 : Int) ≤ (k : Int) := by omega
     have k2 : (k : Int) < (r.length : Int) := by omega
     have k4 : (k : Int) < (s.price.length : Int) := by omega
     have m0 := hx.cell c0
     have m2 := hx.cell c2
     have hxb := HRX.out x (List.mem_of_getElem? hxk.out)
     have hzb := HSO.out.2.2.2.2 z (List.mem_of_getElem? hzk.out)
     have hdt := dot_take hxk.out hzk.out
     have hdb := dot_bd (r := r.take k) (t := s.price) (fun x hx => HRX.out x (List.mem_of_mem_take hx)) HSO.out.2.2.2.2
     rw [List.length_take, Nat.min_eq_left hk] at hdb
     obtain ⟨dk, hdk⟩ : ∃ dk, dotL (r.take k) s.price = dk := ⟨_, rfl⟩
     rw [hdk] at hdb hdt
     have hxz : 0 ≤ x * z ∧ x * z ≤ 100000 := ⟨Int.mul_nonneg hxb.1 hzb.1, by
      have := Int.mul_le_mul hxb.2 hzb.2 hzb.1 (by decide)
      omega⟩
     rw [hdk]
     have hcb := HBD.out
     have hw2 : IntKind.i64.wrap (x * z) = x * z := IntWalk.i64_in _ (by omega)
     have hw3 : IntKind.i64.wrap (C + dk + x * z) = C + dk + x * z := IntWalk.i64_in _ (by omega)
     have x2 : decide ((k : Int) < (r.length : Int)) = true := by simpa using hlt2
     have HDT := Lib.hid hdt
     have HX2 := Lib.hid hx
     clear hrl hql hdt hdk hdb hxz hxb hzb hcb c0 c2 hxk hzk hx
     go_upto_region 8 with fail
     go_quiet (fail)
     go_wp2
     exact ⟨⟨k + 1, by omega, by go_num, by rw [HDT.out, ← Int.add_assoc], HX2.out.drewN _⟩, by simp [intOf]; omega⟩
    ·have hke : k = r.length := by omega
     have x2 : decide ((k : Int) < (r.length : Int)) = false := by simpa using hlt2
     have hdb := dot_bd (r := r) (t := s.price) HRX.out HSO.out.2.2.2.2
     rw [hrl] at hdb
     have hcb := HBD.out
     have hpb := HSO.out.1
     have HBN := Lib.hid (HBO.out _ hx)
     rw [HBS.out] at HBN
     have hrc : rowCost s r = dotL r s.price + (if 0 < r.sum then s.parcel else 0) := rfl
     rw [hrc] at HCT
     have hke2 : dotL (r.take k) s.price = dotL r s.price := by rw [hke, List.take_length]
     rw [hke2]
     obtain ⟨dk, hdk⟩ : ∃ dk, dotL r s.price = dk := ⟨_, rfl⟩
     rw [hdk] at hdb HCT ⊢
     obtain ⟨sm, hsm⟩ : ∃ sm, r.sum = sm := ⟨_, rfl⟩
     rw [hsm] at HCT HBN
     have HX9 := Lib.hid hx
     clear hke hke2 hx hrc hdk hsm hrl hql
     by_cases hs0 : 0 < sm
     ·rw [if_pos hs0] at HCT
      rw [decide_eq_true hs0] at HBN
      have hw3 : IntKind.i64.wrap (C + dk + s.parcel) = C + dk + s.parcel := IntWalk.i64_in _ (by omega)
      have HCB := Lib.hid (show 0 ≤ C + (dk + s.parcel) ∧ C + (dk + s.parcel) ≤ 501000 * ((i + 1 : Nat) : Int) by push_cast; omega)
      clear hdb hcb hpb
      go_wp2_with (go_at_call 90; refine HBN.out.mono ?_; rintro e w2 ⟨rfl, rfl⟩)
      exact ⟨⟨i + 1, by omega, by go_num, by rw [HCT.out, ← Int.add_assoc], by unfold Hid; rw [HCT.out]; exact HCB.out, HX9.out⟩, by simp [intOf]; omega⟩
     ·rw [if_neg hs0, Int.add_zero] at HCT
      rw [decide_eq_false hs0] at HBN
      have HCB := Lib.hid (show 0 ≤ C + dk ∧ C + dk ≤ 501000 * ((i + 1 : Nat) : Int) by push_cast; omega)
      clear hdb hcb hpb
      go_wp2_with (go_at_call 90; refine HBN.out.mono ?_; rintro e w2 ⟨rfl, rfl⟩)
      exact ⟨⟨i + 1, by omega, by go_num, by rw [HCT.out], by unfold Hid; rw [HCT.out]; exact HCB.out, HX9.out⟩, by simp [intOf]; omega⟩
  ·have hie : plan.take i = plan := List.take_of_length_le (by omega)
   rw [hie]
   have x1 : decide ((i : Int) < (plan.length : Int)) = false := by simpa using hlt
   have HX := Lib.hid hx
   clear hie hbd hx
   go_wp2
   go_ret
   exact ⟨rfl, HX.out⟩
set_option maxRecDepth 100000 in
theorem rfrom_any (pv : Value) (plan : List (List Int)) (w : World) (hp : IntRowsAt w pv plan) (h0 : ∀ r, r ∈ plan → ∀ x, x ∈ r → 0 ≤ x) (h4 : plan.length ≤ 4) :
 Calls Tryz.prog 96 #[pv] w fun e w' => e = .returned (.int .i64 (sellersOf plan)) ∧ Ext w w' := by
 obtain ⟨pa, pc, rfl, hp1, hp2, hp3⟩ := hp.open
 have HP3 := Lib.hid hp3
 have H0 := Lib.hid h0
 clear hp hp3 h0
 go_enter Tryz.func96, Tryz.ntmps96
 go_wp2
 go_loopw [3, 4] (fun o j wr => ∃ i : Nat, i ≤ plan.length ∧ j = .int .i64 (i : Int) ∧ o = .int .i64 (sellersTo plan i) ∧ w = wr) (fun _ j _ => plan.length - (intOf j).toNat)
 case atStart => exact ⟨0, Nat.zero_le _, rfl, by simp [sellersTo, sellersOf], rfl⟩
 case round =>
  obtain ⟨i, hi, rfl, rfl, rfl⟩ := hrel
  by_cases hlt : i < plan.length
  ·obtain ⟨pb, po, r, ra, rc, rfl, hrk, d0, hri, hr1, hr2⟩ := HP3.out i hlt
   have i1 : (0 : Int) ≤ (i : Int) := by omega
   have i2 : (i : Int) < (plan.length : Int) := by omega
   have x1 : decide ((i : Int) < (plan.length : Int)) = true := by simpa using hlt
   have hbs := bought_sum (r := r) (H0.out r (List.mem_of_getElem? hrk.out))
   have HBN := Lib.hid (rbought_any _ r w hri)
   rw [hbs] at HBN
   have hst := sellersTo_succ hrk.out
   have hbd := sellersTo_bd plan i
   obtain ⟨n, hn⟩ : ∃ n, sellersTo plan i = n := ⟨_, rfl⟩
   rw [hn] at hst hbd ⊢
   by_cases hs0 : 0 < r.sum
   ·rw [if_pos hs0] at hst
    rw [decide_eq_true hs0] at HBN
    have hw : IntKind.i64.wrap (n + 1) = n + 1 := IntWalk.i64_in _ (by omega)
    have HST := Lib.hid hst
    clear hst hbd hbs hri hrk hn hs0
    go_wp2_with (go_at_call 90; refine HBN.out.mono ?_; rintro e w2 ⟨rfl, rfl⟩)
    go_roundw
    case rel => exact ⟨i + 1, by omega, by go_num, by rw [HST.out], trivial⟩
    case measure => simp [intOf]; omega
   ·rw [if_neg hs0, Int.add_zero] at hst
    rw [decide_eq_false hs0] at HBN
    have HST := Lib.hid hst
    clear hst hbd hbs hri hrk hn hs0
    go_wp2_with (go_at_call 90; refine HBN.out.mono ?_; rintro e w2 ⟨rfl, rfl⟩)
    go_roundw
    case rel => exact ⟨i + 1, by omega, by go_num, by rw [HST.out], trivial⟩
    case measure => simp [intOf]; omega
  ·have hie : sellersTo plan i = sellersOf plan := by unfold sellersTo; rw [List.take_of_length_le (by omega)]
   rw [hie]
   have x1 : decide ((i : Int) < (plan.length : Int)) = false := by simpa using hlt
   clear hie
   go_wp2
   go_ret
   exact ⟨rfl, Ext.refl _⟩
set_option maxRecDepth 100000 in
set_option maxHeartbeats 4000000 in
theorem rsooner_any (av bv : Value) (a b : List (List Int)) (w : World) (ha : IntRowsAt w av a) (hb : IntRowsAt w bv b) (hlen : a.length = b.length) (hrow : ∀ (i : Nat) (r s : List Int), a[i]? = some r → b[i]? = some s → r.length = s.length) :
 Calls Tryz.prog 97 #[av, bv] w fun e w' => e = .returned (.bool (decide (cmpLL a b < 0))) ∧ Ext w w' := by
 have hmix : Tryz.prog.follows .mixedOrders = true := by kernel_rfl
 obtain ⟨aa, ac, rfl, a1, a2, a3⟩ := ha.open
 obtain ⟨ba, bc, rfl, b1, b2, b3⟩ := hb.open
 have HA3 := Lib.hid a3
 have HB3 := Lib.hid b3
 have HROW := Lib.hid hrow
 have HLEN := Lib.hid hlen
 clear ha hb a3 b3 hrow hlen
 go_enter Tryz.func97, Tryz.ntmps97
 go_wp2
 go_loopw [5] (fun i wr => ∃ k : Nat, k ≤ a.length ∧ i = .int .i64 (k : Int) ∧ Hid (a.take k = b.take k) ∧ Ext w wr) (fun i _ => a.length - (intOf i).toNat)
 case atStart => exact ⟨0, Nat.zero_le _, rfl, rfl, Ext.refl _⟩
 case round =>
  obtain ⟨k, hk, rfl, he, hx⟩ := hrel
  have hlen := HLEN.out
  by_cases hlt : k < a.length
  ·obtain ⟨xb, xo, r, ra, rc, rfl, hrk, d0, hri, _, _⟩ := HA3.out k hlt
   obtain ⟨yb, yo, s, sa, sc, rfl, hsk, d1, hsi, _, _⟩ := HB3.out k (by omega)
   have hrs := HROW.out k r s hrk.out hsk.out
   have i1 : (0 : Int) ≤ (k : Int) := by omega
   have i2 : (k : Int) < (a.length : Int) := by omega
   have i3 : (k : Int) < (b.length : Int) := by omega
   have x1 : decide ((k : Int) < (a.length : Int)) = true := by simpa using hlt
   have x2 : decide ((k : Int) < (b.length : Int)) = true := by simp; omega
   have HD := Lib.hid (fun (W1 : World) (h : Ext w W1) => (⟨h.cell d0, h.cell d1⟩ : _ ∧ _))
   obtain ⟨_, _, hve, _, _, hr3⟩ := hri.open
   cases hve
   obtain ⟨_, _, hve, _, _, hs3⟩ := hsi.open
   cases hve
   have HR3 := Lib.hid hr3
   have HS3 := Lib.hid hs3
   have HRS := Lib.hid hrs
   have HX := Lib.hid hx
   clear hr3 hs3 hrs hri hsi d0 d1 hx hlen
   go_wp2
   obtain ⟨wo, rfl⟩ : ∃ wo : World, wo = wr := ⟨_, rfl⟩
   go_loopw [6] (fun i wz => ∃ j : Nat, j ≤ r.length ∧ i = .int .i64 (j : Int) ∧ Hid (r.take j = s.take j) ∧ Ext w wz) (fun i _ => r.length - (intOf i).toNat)
   case atStart => exact ⟨0, Nat.zero_le _, rfl, rfl, HX.out⟩
   case round =>
    obtain ⟨j, hj, rfl, hej, hx⟩ := hrel
    have hrs := HRS.out
    obtain ⟨d0, d1⟩ := HD.out _ hx
    by_cases hjl : j < r.length
    ·obtain ⟨rb, ro, x, rfl, hxk, c0⟩ := HR3.out j hjl
     obtain ⟨sb, so, y, rfl, hyk, c1⟩ := HS3.out j (by omega)
     have j1 : (0 : Int) ≤ (j : Int) := by omega
     have j2 : (j : Int) < (r.length : Int) := by omega
     have j3 : (j : Int) < (s.length : Int) := by omega
     have z1 : decide ((j : Int) < (r.length : Int)) = true := by simpa using hjl
     have z2 : decide ((j : Int) < (s.length : Int)) = true := by simp; omega
     have m0 := hx.cell c0
     have m1 := hx.cell c1
     have HX2 := Lib.hid hx
     by_cases hxy : x = y
     ·subst hxy
      have t3 : (x != x) = false := by simp
      have HE := Lib.hid (take_same hej.out (by rw [hxk.out, hyk.out]))
      clear hej hxk hyk c0 c1 hx hrs
      go_upto_region 7 with fail
      go_quiet (fail)
      go_wp2
      exact ⟨⟨j + 1, by omega, by go_num, HE.out, HX2.out.drewN _⟩, by simp [intOf]; omega⟩
     ·have t3 : (x != y) = true := by simpa using hxy
      have HR : Hid (decide (cmpLL a b < 0) = decide (x < y)) := by
       have h1 := cmpL_diff hej.out hxk.out hyk.out hxy
       have h2 : cmpL r s ≠ 0 := by rw [h1]; split <;> decide
       unfold Hid
       rw [cmpLL_diff he.out hrk.out hsk.out h2, h1]
       by_cases h : x < y <;> simp [h]
      clear hej hxk hyk c0 c1 hx hrs
      go_upto_region 7 with fail
      go_quiet (fail)
      go_wp2
      go_quiet (fail)
      go_wp2
      go_ret
      exact ⟨by rw [HR.out] <;> rfl, (HX2.out.drewN _).drewN _⟩
    ·have z1 : decide ((j : Int) < (r.length : Int)) = false := by simpa using hjl
     have hrse : r = s := by
      have h := hej.out
      rwa [List.take_of_length_le (by omega), List.take_of_length_le (by omega)] at h
     have HE := Lib.hid (take_same he.out (by rw [hrk.out, hsk.out, hrse]))
     have HX2 := Lib.hid hx
     clear hej hrse hx hrs
     go_wp2
     exact ⟨⟨k + 1, by omega, by go_num, HE.out, HX2.out⟩, by simp [intOf]; omega⟩
  ·have x1 : decide ((k : Int) < (a.length : Int)) = false := by simpa using hlt
   have hab : a = b := by
    have h := he.out
    rwa [List.take_of_length_le (by omega), List.take_of_length_le (by omega)] at h
   have HR : Hid (decide (cmpLL a b < 0) = false) := by unfold Hid; rw [hab, cmpLL_self]; rfl
   have HX := Lib.hid hx
   clear hab he hx hlen
   go_wp2
   go_ret
   exact ⟨by rw [HR.out] <;> rfl, HX.out⟩
set_option maxRecDepth 100000 in
theorem rpreferred_any (lv av bv : Value) (ls : List Seller) (wants : List Int) (a b : List (List Int)) (w : World) (hS : SellersB ls wants) (hA : PurchaseB ls wants a) (hB : PurchaseB ls wants b) (hl : SellersAt w lv ls) (ha : IntRowsAt w av a) (hb : IntRowsAt w bv b) :
 Calls Tryz.prog 45 #[lv, av, bv] w fun e w' => e = .returned (.bool (preferB ls a b)) ∧ Ext w w' := by
 have HCA := Lib.hid (fun (W1 : World) (h : Ext w W1) => rcosts_any lv av ls wants a W1 hS hA (hl.ext h) (ha.ext h))
 have HCB := Lib.hid (fun (W1 : World) (h : Ext w W1) => rcosts_any lv bv ls wants b W1 hS hB (hl.ext h) (hb.ext h))
 have h0 : ∀ {p : List (List Int)}, PurchaseB ls wants p → ∀ r, r ∈ p → ∀ x, x ∈ r → 0 ≤ x := fun {p} hp r hr x hx => (purchase_row hp hr).2 x hx
 have h4 : ∀ {p : List (List Int)}, PurchaseB ls wants p → p.length ≤ 4 := fun {p} hp => by have := hp.len; have := hS.l4; omega
 have HFA := Lib.hid (fun (W1 : World) (h : Ext w W1) => rfrom_any av a W1 (ha.ext h) (h0 hA) (h4 hA))
 have HFB := Lib.hid (fun (W1 : World) (h : Ext w W1) => rfrom_any bv b W1 (hb.ext h) (h0 hB) (h4 hB))
 have HSO := Lib.hid (fun (W1 : World) (h : Ext w W1) => rsooner_any av bv a b W1 (ha.ext h) (hb.ext h) (by rw [hA.len, hB.len]) (fun i r s h1 h2 => by rw [(purchase_row hA (List.mem_of_getElem? h1)).1, (purchase_row hB (List.mem_of_getElem? h2)).1]))
 have HFA2 := HFA
 have HFB2 := HFB
 have hq := Ext.refl w
 clear hS hA hB hl ha hb h0 h4
 have hpr : preferB ls a b = if costsB ls a = costsB ls b then (if sellersOf a = sellersOf b then decide (cmpLL a b < 0) else decide (sellersOf a < sellersOf b)) else decide (costsB ls a < costsB ls b) := rfl
 generalize costsB ls a = x at *
 generalize costsB ls b = y at *
 generalize sellersOf a = m at *
 generalize sellersOf b = n at *
 by_cases h1 : x = y
 ·have t1 : (x != y) = false := by simpa using h1
  rw [if_pos h1] at hpr
  by_cases h2 : m = n
  ·have t2 : (m != n) = false := by simpa using h2
   rw [if_pos h2] at hpr
   have HR := Lib.hid hpr
   clear h1 h2 hpr HFA2 HFB2
   go_enter Tryz.func45, Tryz.ntmps45
   go_wp2_with (first | (go_at_call 38; refine (HCA.out _ hq).mono ?_; rintro e w1 ⟨rfl, hx⟩; clear HCA; have hq := hq.trans hx; clear hx) | (go_at_call 38; refine (HCB.out _ hq).mono ?_; rintro e w1 ⟨rfl, hx⟩; clear HCB; have hq := hq.trans hx; clear hx) | (go_at_call 96; refine (HFA.out _ hq).mono ?_; rintro e w1 ⟨rfl, hx⟩; clear HFA; have hq := hq.trans hx; clear hx) | (go_at_call 96; refine (HFB.out _ hq).mono ?_; rintro e w1 ⟨rfl, hx⟩; clear HFB; have hq := hq.trans hx; clear hx) | (go_at_call 97; refine (HSO.out _ hq).mono ?_; rintro e w1 ⟨rfl, hx⟩; clear HSO; have hq := hq.trans hx; clear hx))
   go_ret
   exact ⟨by rw [HR.out] <;> rfl, hq⟩
  ·have t2 : (m != n) = true := by simpa using h2
   rw [if_neg h2] at hpr
   have HR := Lib.hid hpr
   clear h1 h2 hpr HSO
   go_enter Tryz.func45, Tryz.ntmps45
   go_wp2_with (first | (go_at_call 38; refine (HCA.out _ hq).mono ?_; rintro e w1 ⟨rfl, hx⟩; clear HCA; have hq := hq.trans hx; clear hx) | (go_at_call 38; refine (HCB.out _ hq).mono ?_; rintro e w1 ⟨rfl, hx⟩; clear HCB; have hq := hq.trans hx; clear hx) | (go_at_call 96; refine (HFA.out _ hq).mono ?_; rintro e w1 ⟨rfl, hx⟩; clear HFA; have hq := hq.trans hx; clear hx) | (go_at_call 96; refine (HFB.out _ hq).mono ?_; rintro e w1 ⟨rfl, hx⟩; clear HFB; have hq := hq.trans hx; clear hx) | (go_at_call 96; refine (HFA2.out _ hq).mono ?_; rintro e w1 ⟨rfl, hx⟩; clear HFA2; have hq := hq.trans hx; clear hx) | (go_at_call 96; refine (HFB2.out _ hq).mono ?_; rintro e w1 ⟨rfl, hx⟩; clear HFB2; have hq := hq.trans hx; clear hx))
   go_ret
   exact ⟨by rw [HR.out] <;> rfl, hq⟩
 ·have t1 : (x != y) = true := by simpa using h1
  rw [if_neg h1] at hpr
  have HR := Lib.hid hpr
  clear h1 hpr HSO HFA HFB HFA2 HFB2
  go_enter Tryz.func45, Tryz.ntmps45
  go_wp2_with (first | (go_at_call 38; refine (HCA.out _ hq).mono ?_; rintro e w1 ⟨rfl, hx⟩; clear HCA; have hq := hq.trans hx; clear hx) | (go_at_call 38; refine (HCB.out _ hq).mono ?_; rintro e w1 ⟨rfl, hx⟩; clear HCB; have hq := hq.trans hx; clear hx))
  go_ret
  exact ⟨by rw [HR.out] <;> rfl, hq⟩
end Go.Proofs.YtpebafaigldldaaGreatDoor
