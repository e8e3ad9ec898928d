/- costs: what a purchase costs; it gives up if a list is none. -/
import Derived.Test.YtokananogogjaaaGreatDoorOpk
import Derived.Test.YtokananogogjaaaGreatDoorOs
import Derived.Test.YtokananogogjaaaGreatDoorOc
import Derived.Test.YtokananogogjaaaGreatDoorOp
import Derived.Test.YtokananogogjaaaGreatDoorObt
import Derived.Test.YtokananogogjaaaGreatDoorOaq
namespace Go.Proofs.YtokananogogjaaaGreatDoor
open Go.RowKit
theorem sub_bd {lo hi : Int} : ∀ {a r : List Int}, (∀ y, y ∈ a → lo ≤ y ∧ y ≤ hi) → (∀ x, x ∈ r → 0 ≤ x ∧ x ≤ 100) → ∀ y, y ∈ subL a r → lo - 100 ≤ y ∧ y ≤ hi
 | [], _, _, _, y, h => by simp [subL] at h
 | x :: a, [], h1, _, y, h => by simp only [subL] at h; have := h1 y h; omega
 | x :: a, z :: r, h1, h2, y, h => by
  simp only [subL, List.mem_cons] at h
  have e1 := h1 x (by simp)
  have e2 := h2 z (by simp)
  rcases h with rfl | h
  ·omega
  ·exact sub_bd (fun y hy => h1 y (by simp [hy])) (fun y hy => h2 y (by simp [hy])) y h
theorem over_small : ∀ {r t : List Int}, overL r t = false → r.length ≤ t.length → (∀ y, y ∈ t → y ≤ 100) → ∀ x, x ∈ r → 0 ≤ x ∧ x ≤ 100
 | [], _, _, _, _, x, h => by simp at h
 | _ :: _, [], _, h, _, _, _ => by simp at h
 | z :: r, y :: t, h1, h2, h3, x, h => by
  unfold overL at h1
  rw [Bool.or_eq_false_iff, Bool.not_eq_false', inB_iff] at h1
  have e := h3 y (by simp)
  rcases List.mem_cons.1 h with rfl | h
  ·omega
  ·exact over_small h1.2 (by simpa using h2) (fun y hy => h3 y (by simp [hy])) x h
theorem not_purchase {ls : List Seller} {wants : List Int} {p : List (List Int)} (h : badRows wants.length ls p = true) : isPurchaseB ls wants p = false := by
 unfold isPurchaseB; rw [h]; simp
def CostP (ls : List Seller) (wants : List Int) (p : List (List Int)) (w : World) (e : Ending) (w' : World) : Prop :=
 Ext w w' ∧ ((isPurchaseB ls wants p = true ∧ e = .returned (.int .i64 (costsB ls p))) ∨ (isPurchaseB ls wants p = false ∧ ∃ n : Int, e = .panicked [{ v := badV n, recovered := false }]))
theorem SellersAt.open {w : World} {v : Value} {ls : List Seller} (h : SellersAt w v ls) : ∃ a c, v = .slice a ls.length c ∧ ls.length ≤ c ∧ c ≤ 9223372036854775807 ∧
 ∀ i, i < ls.length → ∃ b o s sa sc pa pc, a = some ⟨b, o, none⟩ ∧ Hid (ls[i]? = some s) ∧ w.cell? ⟨b, o + i * 3, none⟩ = some (.int .i64 s.parcel) ∧ w.cell? ⟨b, o + i * 3 + 1, none⟩ = some (.slice sa s.stock.length sc) ∧ w.cell? ⟨b, o + i * 3 + 2, none⟩ = some (.slice pa s.price.length pc) ∧
  IntsAt w (.slice sa s.stock.length sc) s.stock ∧ IntsAt w (.slice pa s.price.length pc) s.price := by
 obtain ⟨rows, rfl, hrow, hri⟩ := h
 obtain ⟨a, c, rfl, h1, h2, h3⟩ := RowOf.open3 (f := slrC) (f0 := fun r => .int .i64 r.s.parcel) (f1 := SlR.st) (f2 := SlR.pr) (fun _ => rfl) hrow
 refine ⟨a, c, by simp, by simpa using h1, h2, fun i hi => ?_⟩
 obtain ⟨b, o, x, ha, hx, c0, c1, c2⟩ := h3 i (by simpa using hi)
 obtain ⟨i1, i2⟩ := hri x (List.mem_of_getElem? hx.out)
 obtain ⟨sa, sc, hs, _⟩ := i1.open
 obtain ⟨pa, pc, hp, _⟩ := i2.open
 rw [hs] at c1 i1
 rw [hp] at c2 i2
 exact ⟨b, o, x.s, sa, sc, pa, pc, ha, by unfold Hid; rw [List.getElem?_map, hx.out]; rfl, c0, c1, c2, i1, i2⟩
set_option maxRecDepth 100000 in
set_option maxHeartbeats 16000000 in
theorem costs_any (lv wv pv : Value) (ls : List Seller) (wants : List Int) (plan : List (List Int)) (w : World) (hS : SellersB ls wants) (hl : SellersAt w lv ls) (hw : IntsAt w wv wants) (hp : IntRowsAt w pv plan) :
 Calls Tryz.prog 68 #[lv, wv, pv] w (CostP ls wants plan w) := by
 have HCL := Lib.hid (fun (W1 : World) (h : Ext w W1) => clone_any wv wants W1 (hw.ext h) (by have := hS.w5; omega))
 obtain ⟨la, lc, rfl, hl1, hl2, hl3⟩ := hl.open
 obtain ⟨wa, wc, rfl, hw1, hw2, _⟩ := hw.open
 obtain ⟨pa, pc, rfl, hp1, hp2, hp3⟩ := hp.open
 have HL3 := Lib.hid hl3
 have HP3 := Lib.hid hp3
 have HS := Lib.hid hS
 have hB : ∀ w' (n : Int), isPurchaseB ls wants plan = false → Ext w w' → CostP ls wants plan w (.panicked [{ v := badV n, recovered := false }]) w' := fun w' n h hx => ⟨hx, .inr ⟨h, n, rfl⟩⟩
 have HB := Lib.hid hB
 have hG : ∀ w', isPurchaseB ls wants plan = true → Ext w w' → CostP ls wants plan w (.returned (.int .i64 (costsB ls plan))) w' := fun w' h hx => ⟨hx, .inl ⟨h, rfl⟩⟩
 have HG := Lib.hid hG
 have hn4 := hS.l4
 have hn5 := hS.w5
 have hn1 := hS.w1
 clear hl hw hp hl3 hp3 hS hB hG
 by_cases hlen : plan.length = ls.length
 rotate_left
 ·have t0 : ((plan.length : Int) != (ls.length : Int)) = true := by simp; omega
  have hno : isPurchaseB ls wants plan = false := by unfold isPurchaseB; rw [decide_eq_false (by omega)]; rfl
  have HNO := Lib.hid hno
  clear hlen hno
  go_enter Tryz.func68, Tryz.ntmps68
  go_wp2
  exact ⟨rfl, HB.out _ _ HNO.out (Ext.refl _)⟩
 have t0 : ((plan.length : Int) != (ls.length : Int)) = false := by simp; omega
 have HLEN := Lib.hid hlen
 go_enter Tryz.func68, Tryz.ntmps68
 go_upto_region 4 with (go_at_call 65; refine (HCL.out _ (Ext.refl _)).mono ?_; rintro e w1 ⟨cv, rfl, hown, hx1⟩)
 obtain ⟨g, cap, rfl, hg1, hg2⟩ := owns_some hown (by omega)
 have HOWN := Lib.hid hown
 have HX1 := Lib.hid hx1
 clear hown hx1 HCL
 go_wp2
 go_loopw [8, 28] (fun o j wr => ∃ i : Nat, i ≤ plan.length ∧ j = .int .i64 (i : Int) ∧ o = .int .i64 (costsB ls (plan.take i)) ∧ Hid (badRows wants.length ls (plan.take i) = false ∧ (0 ≤ costsB ls (plan.take i) ∧ costsB ls (plan.take i) ≤ 501000 * i) ∧ ∀ y, y ∈ leftOf wants (plan.take i) → -100 * (i : Int) ≤ y ∧ y ≤ 400) ∧
  wr.ownsRow w.heap.size 3 1 (.slice (some ⟨g, 0, none⟩) wants.length cap) wants.length ((leftOf wants (plan.take i)).map (.int .i64)) ∧ Ext w wr) (fun _ j _ => plan.length - (intOf j).toNat)
 case atStart =>
  refine ⟨0, Nat.zero_le _, rfl, by rw [List.take_zero]; cases ls <;> rfl, ⟨by rw [List.take_zero]; cases ls <;> rfl, by rw [List.take_zero]; cases ls <;> simp [costsB], fun y hy => ?_⟩, HOWN.out, HX1.out⟩
  have := HS.out.want y hy
  omega
 case round =>
  obtain ⟨i, hi, rfl, rfl, hbad, hown, hx⟩ := hrel
  by_cases hlt : i < plan.length
  ·obtain ⟨pb, po, r, ra, rc, rfl, hrk, d0, hri, hr1, hr2⟩ := HP3.out i hlt
   obtain ⟨lb, lo, s, sa, sc, qa, qc, rfl, hsk, e0, e1, e2, hst, hpr⟩ := HL3.out i (by omega)
   have hso := HS.out.one s (List.mem_of_getElem? hsk.out)
   have i1 : (0 : Int) ≤ (i : Int) := by omega
   have i2 : (i : Int) < (plan.length : Int) := by omega
   have i3 : (i : Int) < (ls.length : Int) := by omega
   have f0 := hx.cell d0
   have hi4 : i < 4 := by omega
   have HX := Lib.hid hx
   obtain ⟨C, hC⟩ : ∃ C, costsB ls (plan.take i) = C := ⟨_, rfl⟩
   obtain ⟨L, hL⟩ : ∃ L, leftOf wants (plan.take i) = L := ⟨_, rfl⟩
   rw [hC, hL] at hbad
   rw [hL] at hown
   rw [hC]
   have HCT := Lib.hid (costs_take hsk.out hrk.out)
   have HBT := Lib.hid (badRows_take (n := wants.length) hsk.out hrk.out)
   have HLT := Lib.hid (left_take wants hrk.out)
   rw [hC] at HCT
   rw [hL] at HLT
   have HLL := Lib.hid (show L.length = wants.length by rw [← hL]; exact left_len _ _)
   by_cases hrl : r.length = wants.length
   rotate_left
   ·have t1 : ((r.length : Int) != (wants.length : Int)) = true := by simp; omega
    have HNO := Lib.hid (not_purchase (wants := wants) (badRows_at (n := wants.length) hsk.out hrk.out (.inl hrl)))
    clear hrl hbad hown hx hC hL d0 e0 e1 e2 hst hpr hri
    go_wp2
    exact ⟨rfl, HB.out _ _ HNO.out HX.out⟩
   have t1 : ((r.length : Int) != (wants.length : Int)) = false := by simp; omega
   have HBAD := Lib.hid hbad
   have HOWN2 := Lib.hid hown
   have HST := Lib.hid hst
   have HPR := Lib.hid hpr
   have HRI := Lib.hid hri
   have HSO := Lib.hid hso
   have HRL := Lib.hid hrl
   have HD := Lib.hid (fun (W1 : World) (h : Ext w W1) => (⟨h.cell e0, h.cell e1, h.cell e2⟩ : _ ∧ _ ∧ _))
   obtain ⟨_, _, hve, _, _, hr3⟩ := hri.open
   cases hve
   obtain ⟨_, _, hve, _, _, hs3⟩ := hst.open
   cases hve
   obtain ⟨_, _, hve, _, _, hq3⟩ := hpr.open
   cases hve
   have HR3 := Lib.hid hr3
   have HS3 := Lib.hid hs3
   have HQ3 := Lib.hid hq3
   have HRK := Lib.hid hrk.out
   have HSK := Lib.hid hsk.out
   clear hbad hown hx hC hL d0 e0 e1 e2 hst hpr hri hso hr3 hs3 hq3 hrl hrk hsk
   go_wp2
   clear f0
   obtain ⟨wo, rfl⟩ : ∃ wo : World, wo = wr := ⟨_, rfl⟩
   go_loopw [8, 43] (fun o j wz => ∃ k : Nat, k ≤ r.length ∧ j = .int .i64 (k : Int) ∧ o = .int .i64 (C + dotL (r.take k) s.price) ∧ Hid (overL (r.take k) s.stock = false) ∧
    wz.ownsRow w.heap.size 3 1 (.slice (some ⟨g, 0, none⟩) wants.length cap) wants.length ((subL L (r.take k)).map (.int .i64)) ∧ Ext w wz) (fun _ j _ => r.length - (intOf j).toNat)
   case atStart => exact ⟨0, Nat.zero_le _, rfl, by simp [dotL], by simp [Hid, overL], by have h := HOWN2.out; rw [List.take_zero]; cases L <;> exact h, HX.out⟩
   case round =>
    obtain ⟨k, hk, rfl, rfl, hov, hown, hx⟩ := hrel
    have hrl := HRL.out
    have hsl := HSO.out.2.1
    have hql := HSO.out.2.2.1
    by_cases hlt2 : k < r.length
    ·obtain ⟨rb, ro, x, rfl, hxk, c0⟩ := HR3.out k hlt2
     obtain ⟨sb, so, y, rfl, hyk, c1⟩ := HS3.out k (by omega)
     obtain ⟨qb, qo, z, rfl, hzk, c2⟩ := HQ3.out k (by omega)
     obtain ⟨e0, e1, e2⟩ := HD.out _ hx
     have k1 : (0 : Int) ≤ (k : Int) := by omega
     have k2 : (k : Int) < (r.length : Int) := by omega
     have k3 : (k : Int) < (s.stock.length : Int) := by omega
     have k4 : (k : Int) < (s.price.length : Int) := by omega
     have k5 : (k : Int) < (wants.length : Int) := by omega
     have m0 := hx.cell c0
     have m1 := hx.cell c1
     have m2 := hx.cell c2
     have hyb := HSO.out.2.2.2.1 y (List.mem_of_getElem? hyk.out)
     have hzb := HSO.out.2.2.2.2 z (List.mem_of_getElem? hzk.out)
     have HIN := Lib.hid (fun W1 => in_any x 0 y W1)
     have HX2 := Lib.hid hx
     cases hin : inB x 0 y with
     | false =>
      rw [hin] at HIN
      have HNO := Lib.hid (not_purchase (wants := wants) (badRows_at (n := wants.length) HSK.out HRK.out (.inr (over_at hxk.out hyk.out hin))))
      clear hin hown hx hov c0 c1 c2 hrl hsl hql
      go_wp2_with (go_at_call 61; refine (HIN.out _).mono ?_; rintro e w2 ⟨rfl, rfl⟩)
      exact ⟨rfl, HB.out _ _ HNO.out HX2.out⟩
     | true =>
      have hxb := inB_iff.1 hin
      have hov2 : overL (r.take (k + 1)) s.stock = false := by rw [over_take hxk.out hyk.out, hov.out, hin]; rfl
      have hdt := dot_take hxk.out hzk.out
      have hdb := dot_bd (r := r.take k) (t := s.price) (over_small hov.out (by rw [List.length_take]; omega) (fun y hy => (HSO.out.2.2.2.1 y hy).2)) HSO.out.2.2.2.2
      rw [List.length_take, Nat.min_eq_left hk] at hdb
      obtain ⟨old, hold⟩ : ∃ old, L[k]? = some old := ⟨_, List.getElem?_eq_getElem (by have := HLL.out; omega)⟩
      have hst := sub_take hold hxk.out
      have hob := HBAD.out.2.2 old (List.mem_of_getElem? hold)
      have hcb := HBAD.out.2.1
      have l0 : wr.cell? ⟨g, k, none⟩ = some (.int .i64 old) := by rw [hown.cellAt k (by omega), List.getElem?_map, hst.2]; rfl
      have lf := hown.frozenAt k
      obtain ⟨dk, hdk⟩ : ∃ dk, dotL (r.take k) s.price = dk := ⟨_, rfl⟩
      rw [hdk] at hdb hdt
      have hxz : 0 ≤ x * z ∧ x * z ≤ 100000 := ⟨Int.mul_nonneg hxb.1 hzb.1, by
       have := Int.mul_le_mul (show x ≤ 100 by omega) hzb.2 hzb.1 (by decide)
       omega⟩
      rw [hdk]
      have hw1 : IntKind.i64.wrap (old - x) = old - x := IntWalk.i64_in _ (by omega)
      have hw2 : IntKind.i64.wrap (x * z) = x * z := IntWalk.i64_in _ (by omega)
      have hw3 : IntKind.i64.wrap (C + dk + x * z) = C + dk + x * z := IntWalk.i64_in _ (by omega)
      have HW := Lib.hid (And.intro hw1 (And.intro hw2 hw3))
      rw [hin] at HIN
      have hst5 := (hown.stored k (.int .i64 (old - x))).1
      rw [← List.map_set, ← hst.1] at hst5
      have HST5 := Lib.hid hst5
      have HOV2 := Lib.hid hov2
      have HDT := Lib.hid hdt
      have HX5 := Lib.hid (HX2.out.setCell (p := ⟨g, k, none⟩) hg1 (.int .i64 (old - x)))
      obtain ⟨e3, e4, e5⟩ := HD.out _ HX5.out
      have m3 := HX5.out.cell c2
      clear hrl hsl hql hin hown hx hov hov2 hdt hst hst5 hold hdk hob hcb hdb hxz hyb hzb hxb c0 c1 c2 hw1 hw2 hw3
      obtain ⟨hw1, hw2, hw3⟩ := HW.out
      go_wp2_with (go_at_call 61; refine (HIN.out _).mono ?_; rintro e w2 ⟨rfl, rfl⟩)
      go_roundw
      case rel => exact ⟨k + 1, by omega, by go_num, by rw [HDT.out, ← Int.add_assoc], HOV2.out, HST5.out, HX5.out⟩
      case measure => simp [intOf]; omega
    ·have hke : k = r.length := by omega
     rw [hke, List.take_length] at hov hown
     have hxs := over_small hov.out (by omega) (fun y hy => (HSO.out.2.2.2.1 y hy).2)
     have hdb := dot_bd (r := r) (t := s.price) hxs HSO.out.2.2.2.2
     rw [hrl] at hdb
     have hcb := HBAD.out.2.1
     have hpb := HSO.out.1
     have hsb : ∀ q, 0 ≤ (r.take q).sum ∧ (r.take q).sum ≤ 1000000000000000 := fun q => by
      have h1 := sums_bd hxs (by decide) q
      have h2 := sums_bd hxs (by decide) r.length
      rcases Nat.le_total q r.length with hq | hq
      ·omega
      ·rw [List.take_of_length_le hq] at h1 ⊢
       rw [List.take_of_length_le (Nat.le_refl _)] at h2
       omega
     have HSUM := Lib.hid (sum_any _ r wr (HRI.out.ext hx) hsb (fun x hx => by have := hxs x hx; omega))
     have HROW : Hid (badRows wants.length ls (plan.take (i + 1)) = false) := by
      unfold Hid
      rw [HBT.out, HBAD.out.1, hov.out, decide_eq_false (by omega)]; rfl
     have HLB := Lib.hid (sub_bd HBAD.out.2.2 hxs)
     rw [← HLT.out] at hown HLB
     have hrc : rowCost s r = dotL r s.price + (if 0 < r.sum then s.parcel else 0) := rfl
     rw [hrc] at HCT
     have hke2 : dotL (r.take k) s.price = dotL r s.price := by rw [hke, List.take_length]
     rw [hke2]
     obtain ⟨dk, hdk⟩ : ∃ dk, dotL r s.price = dk := ⟨_, rfl⟩
     rw [hdk] at hdb HCT ⊢
     obtain ⟨sm, hsm⟩ : ∃ sm, r.sum = sm := ⟨_, rfl⟩
     rw [hsm] at HCT HSUM
     obtain ⟨e0, e1, e2⟩ := HD.out _ hx
     have HX9 := Lib.hid hx
     have HOWN9 := Lib.hid hown
     clear hke hke2 hov hown hx hrc hdk hxs hsb hsm hrl hsl hql
     by_cases hs0 : 0 < sm
     ·rw [if_pos hs0] at HCT
      have t2 : decide (0 < sm) = true := by simpa using hs0
      have hw3 : IntKind.i64.wrap (C + dk + s.parcel) = C + dk + s.parcel := IntWalk.i64_in _ (by omega)
      have HCB := Lib.hid (show 0 ≤ C + (dk + s.parcel) ∧ C + (dk + s.parcel) ≤ 501000 * ((i + 1 : Nat) : Int) by push_cast; omega)
      clear hdb hcb hpb
      go_wp2_with (go_at_call 69; refine HSUM.out.mono ?_; rintro e w2 ⟨rfl, rfl⟩)
      go_roundw
      case rel => exact ⟨i + 1, by omega, by go_num, by rw [HCT.out, ← Int.add_assoc], ⟨HROW.out, by rw [HCT.out]; exact HCB.out, fun y hy => by have := HLB.out y hy; push_cast; omega⟩, HOWN9.out, HX9.out⟩
      case measure => simp [intOf]; omega
     ·rw [if_neg hs0, Int.add_zero] at HCT
      have t2 : decide (0 < sm) = false := by simpa using hs0
      have HCB := Lib.hid (show 0 ≤ C + dk ∧ C + dk ≤ 501000 * ((i + 1 : Nat) : Int) by push_cast; omega)
      clear hdb hcb hpb
      go_wp2_with (go_at_call 69; refine HSUM.out.mono ?_; rintro e w2 ⟨rfl, rfl⟩)
      go_roundw
      case rel => exact ⟨i + 1, by omega, by go_num, by rw [HCT.out], ⟨HROW.out, by rw [HCT.out]; exact HCB.out, fun y hy => by have := HLB.out y hy; push_cast; omega⟩, HOWN9.out, HX9.out⟩
      case measure => simp [intOf]; omega
  ·have hie : plan.take i = plan := List.take_of_length_le (by omega)
   rw [hie] at hbad hown ⊢
   obtain ⟨L, hL⟩ : ∃ L, leftOf wants plan = L := ⟨_, rfl⟩
   have HLL := Lib.hid (show L.length = wants.length by rw [← hL]; exact left_len _ _)
   have HPU : Hid (isPurchaseB ls wants plan = L.all fun n => n == 0) := by
    unfold Hid isPurchaseB
    rw [hbad.out.1, decide_eq_true (by omega), hL]; rfl
   rw [hL] at hown
   have HOWN2 := Lib.hid hown
   have HX := Lib.hid hx
   obtain ⟨C, hC⟩ : ∃ C, costsB ls plan = C := ⟨_, rfl⟩
   rw [hC] at HG ⊢
   clear hie hbad hown hx hL hC
   go_wp2
   obtain ⟨wo, rfl⟩ : ∃ wo : World, wo = wr := ⟨_, rfl⟩
   go_loop [95] (fun j => ∃ k : Nat, k ≤ wants.length ∧ j = .int .i64 (k : Int) ∧ Hid ((L.take k).all (fun n => n == 0) = true)) (fun j => wants.length - (intOf j).toNat)
   case atStart => exact ⟨0, Nat.zero_le _, rfl, by simp [Hid]⟩
   case round =>
    obtain ⟨k, hk, rfl, hal⟩ := hrel
    by_cases hlt2 : k < wants.length
    ·obtain ⟨y, hy⟩ : ∃ y, L[k]? = some y := ⟨_, List.getElem?_eq_getElem (by have := HLL.out; omega)⟩
     have k1 : (0 : Int) ≤ (k : Int) := by omega
     have k2 : (k : Int) < (wants.length : Int) := by omega
     have l0 : wo.cell? ⟨g, k, none⟩ = some (.int .i64 y) := by rw [HOWN2.out.cellAt k (by omega), List.getElem?_map, hy]; rfl
     by_cases hy0 : y = 0
     ·have t1 : (y != 0) = false := by simp [hy0]
      have HAL : Hid ((L.take (k + 1)).all (fun n => n == 0) = true) := by
       unfold Hid
       rw [List.take_add_one, hy, Option.toList_some, List.all_append, hal.out, hy0]; rfl
      clear hy hal hy0
      go_wp2
      go_round
      case rel => exact ⟨k + 1, by omega, by go_num, HAL.out⟩
      case measure => simp [intOf]; omega
     ·have t1 : (y != 0) = true := by simpa using hy0
      have hno : isPurchaseB ls wants plan = false := by
       rw [HPU.out, List.all_eq_false]
       exact ⟨y, List.mem_of_getElem? hy, by simpa using hy0⟩
      have HNO := Lib.hid hno
      clear hno hy hal hy0
      go_wp2
      exact ⟨rfl, HB.out _ _ HNO.out HX.out⟩
    ·have hyes : isPurchaseB ls wants plan = true := by
      rw [HPU.out]
      have h := hal.out
      rwa [List.take_of_length_le (by have := HLL.out; omega)] at h
     have HYES := Lib.hid hyes
     clear hyes hal
     go_wp2
     go_ret
     exact HG.out _ HYES.out HX.out
end Go.Proofs.YtokananogogjaaaGreatDoor

/- Costs. -/
namespace Go.Proofs.YtokananogogjaaaGreatDoor
open Go.RowKit
theorem sellers_of {ls : List Seller} {wants : List Int} (h : areSellersB ls wants = true) : SellersB ls wants := sellersB_iff.1 h
end Go.Proofs.YtokananogogjaaaGreatDoor

/- Buy's order of purchases; the best of some. -/
namespace Go.Proofs.YtokananogogjaaaGreatDoor
open Go.RowKit
theorem buy11_any (va vb : Value) (a b : List Int) (w : World) (ha : IntsAt w va a) (hb : IntsAt w vb b) :
 Calls Tryz.prog 73 #[va, vb] w fun e w' => e = .returned (.int .i64 (cmpL a b)) ∧ w = w' := by
 have HCM := Lib.hid (compareL_any va vb a b w ha hb)
 obtain ⟨aa, ac, rfl, _⟩ := ha.open
 obtain ⟨ba, bc, rfl, _⟩ := hb.open
 clear ha hb
 go_enter Tryz.func73, Tryz.ntmps73
 go_wp2_with (go_at_call 53; refine HCM.out.mono ?_; rintro e w9 ⟨rfl, rfl⟩)
 go_ret
 exact ⟨rfl, rfl⟩
theorem enters_buy11 : ∀ args w, (callFunc 73 args).run Tryz.prog w = .ok (.enter 73 args) w := enters_of Tryz.func73 (by kernel_rfl) rfl
theorem cmpLL_cons (x y : List Int) (a b : List (List Int)) : cmpLL (x :: a) (y :: b) = if cmpL x y = 0 then cmpLL a b else cmpL x y := rfl
set_option maxRecDepth 100000 in
set_option maxHeartbeats 4000000 in
theorem compareLL_any (va vb : Value) (xs ys : List (List Int)) (w : World) (ha : IntRowsAt w va xs) (hb : IntRowsAt w vb ys) :
 Calls Tryz.prog 72 #[va, vb, .func (.func 73) #[] #[]] w fun e w' => e = .returned (.int .i64 (cmpLL xs ys)) ∧ w = w' := by
 have eb := enters_buy11
 obtain ⟨aa, ac, rfl, a1, a2, a3⟩ := ha.open
 obtain ⟨ba, bc, rfl, b1, b2, b3⟩ := hb.open
 have HA3 := Lib.hid a3
 have HB3 := Lib.hid b3
 clear ha hb a3 b3
 go_enter Tryz.func72, Tryz.ntmps72
 go_wp2
 go_loop [13] (fun i => ∃ k : Nat, k ≤ xs.length ∧ k ≤ ys.length ∧ i = .int .i64 (k : Int) ∧ Hid (cmpLL xs ys = cmpLL (xs.drop k) (ys.drop k))) (fun i => xs.length - (intOf i).toNat)
 case atStart => exact ⟨0, Nat.zero_le _, Nat.zero_le _, rfl, rfl⟩
 case round =>
  obtain ⟨k, hk, hky, rfl, hq⟩ := hrel
  by_cases hlt : k < xs.length
  ·obtain ⟨bb, bo, x, xa, xc, rfl, hxk, c0, hix, _, _⟩ := HA3.out k hlt
   have k1 : (0 : Int) ≤ (k : Int) := by omega
   have k2 : (k : Int) < (xs.length : Int) := by omega
   have hdx : xs.drop k = x :: xs.drop (k + 1) := by
    obtain ⟨h1, h2⟩ := List.getElem?_eq_some_iff.1 hxk.out
    rw [List.drop_eq_getElem_cons h1, h2]
   by_cases hly : k < ys.length
   ·obtain ⟨cb, co, y, ya, yc, rfl, hyk, c1, hiy, _, _⟩ := HB3.out k hly
    have k3 : (k : Int) < (ys.length : Int) := by omega
    have t1 : decide ((ys.length : Int) ≤ (k : Int)) = false := by simp; omega
    have t1' : decide (ys.length ≤ k) = false := by simp; omega
    have hdy : ys.drop k = y :: ys.drop (k + 1) := by
     obtain ⟨h1, h2⟩ := List.getElem?_eq_some_iff.1 hyk.out
     rw [List.drop_eq_getElem_cons h1, h2]
    have h5 := hq.out
    rw [hdx, hdy, cmpLL_cons] at h5
    have HAK := Lib.hid (buy11_any (.slice xa x.length xc) (.slice ya y.length yc) x y w hix hiy)
    obtain ⟨z, hz⟩ : ∃ z, cmpL x y = z := ⟨_, rfl⟩
    rw [hz] at h5 HAK
    clear hq hdx hdy hxk hyk hix hiy hz
    by_cases hz0 : z = 0
    ·have t2 : (z != 0) = false := by simp [hz0]
     rw [if_pos hz0] at h5
     have HQ := Lib.hid h5
     clear h5 hz0
     go_wp2_with (refine Calls.mono HAK.out ?_; rintro e w2 ⟨rfl, rfl⟩)
     go_round
     case rel => exact ⟨k + 1, by omega, by omega, by go_num, HQ.out⟩
     case measure => simp [intOf]; omega
    ·have t2 : (z != 0) = true := by simpa using hz0
     rw [if_neg hz0] at h5
     have HQ := Lib.hid h5
     clear h5 hz0
     go_wp2_with (refine Calls.mono HAK.out ?_; rintro e w2 ⟨rfl, rfl⟩)
     go_ret
     exact ⟨by rw [HQ.out] <;> rfl, rfl⟩
   ·have t1 : decide ((ys.length : Int) ≤ (k : Int)) = true := by simp; omega
    have t1' : decide (ys.length ≤ k) = true := by simp; omega
    have h5 := hq.out
    rw [hdx, List.drop_eq_nil_of_le (show ys.length ≤ k by omega)] at h5
    have HQ := Lib.hid (show cmpLL xs ys = 1 from h5)
    clear hq h5 hdx hxk hix
    go_wp2
    go_ret
    exact ⟨by rw [HQ.out] <;> rfl, rfl⟩
  ·have h5 := hq.out
   rw [List.drop_eq_nil_of_le (show xs.length ≤ k by omega)] at h5
   by_cases hll : xs.length < ys.length
   ·have t3 : decide ((xs.length : Int) < (ys.length : Int)) = true := by simp; omega
    have HQ := Lib.hid (show cmpLL xs ys = -1 by
     rw [h5]
     cases hd : ys.drop k with
     | nil => rw [List.drop_eq_nil_iff] at hd; omega
     | cons _ _ => rfl)
    clear hq h5
    go_wp2
    go_ret
    exact ⟨by rw [HQ.out] <;> rfl, rfl⟩
   ·have t3 : decide ((xs.length : Int) < (ys.length : Int)) = false := by simp; omega
    have HQ := Lib.hid (show cmpLL xs ys = 0 by
     rw [h5, List.drop_eq_nil_of_le (show ys.length ≤ k by omega)]; rfl)
    clear hq h5
    go_wp2
    go_ret
    exact ⟨by rw [HQ.out] <;> rfl, rfl⟩
set_option maxRecDepth 100000 in
set_option maxHeartbeats 2000000 in
theorem betterB_any (va vb : Value) (a b : Bought) (w : World) (ha : IntRowsAt w va a.1) (hb : IntRowsAt w vb b.1) :
 Calls Tryz.prog 71 #[.agg #[va, .int .i64 a.2.1, .int .i64 a.2.2], .agg #[vb, .int .i64 b.2.1, .int .i64 b.2.2]] w fun e w' => e = .returned (.bool (ltB a b)) ∧ Ext w w' := by
 have HCM := Lib.hid (fun (W1 : World) (h : Ext w W1) => compareLL_any va vb a.1 b.1 W1 (ha.ext h) (hb.ext h))
 obtain ⟨aa, ac, rfl, _⟩ := ha.open
 obtain ⟨ba, bc, rfl, _⟩ := hb.open
 have hx0 : Ext w ((w.alloc (.cells #[.slice aa a.1.length ac, .int .i64 a.2.1, .int .i64 a.2.2] 132)).alloc (.cells #[.slice ba b.1.length bc, .int .i64 b.2.1, .int .i64 b.2.2] 132)) := ((Ext.refl w).alloc _).alloc _
 have HX0 := Lib.hid hx0
 clear ha hb hx0
 by_cases hp : a.2.1 = b.2.1
 ·have t1 : (a.2.1 != b.2.1) = false := by rw [hp]; simp
  by_cases hs : a.2.2 = b.2.2
  ·have t2 : (a.2.2 != b.2.2) = false := by rw [hs]; simp
   have HR : Hid (ltB a b = decide (cmpLL a.1 b.1 < 0)) := by unfold Hid ltB; rw [if_pos hp, if_pos hs]
   clear hp hs
   go_enter Tryz.func71, Tryz.ntmps71
   go_wp2_with (go_at_call 72; refine (HCM.out _ HX0.out).mono ?_; rintro e w9 ⟨rfl, rfl⟩)
   go_ret
   exact ⟨by rw [HR.out] <;> rfl, HX0.out⟩
  ·have t2 : (a.2.2 != b.2.2) = true := by simpa using hs
   have HR : Hid (ltB a b = decide (a.2.2 < b.2.2)) := by unfold Hid ltB; rw [if_pos hp, if_neg hs]
   clear hp hs
   go_enter Tryz.func71, Tryz.ntmps71
   go_wp2
   go_ret
   exact ⟨by rw [HR.out] <;> rfl, HX0.out⟩
 ·have t1 : (a.2.1 != b.2.1) = true := by simpa using hp
  have HR : Hid (ltB a b = decide (a.2.1 < b.2.1)) := by unfold Hid ltB; rw [if_neg hp]
  clear hp
  go_enter Tryz.func71, Tryz.ntmps71
  go_wp2
  go_ret
  exact ⟨by rw [HR.out] <;> rfl, HX0.out⟩
theorem enters_betterB : ∀ args w, (callFunc 71 args).run Tryz.prog w = .ok (.enter 71 args) w := enters_of Tryz.func71 (by kernel_rfl) rfl
structure BtR where
 v : Value
 p : Bought
def btrC (r : BtR) : List Value := [r.v, .int .i64 r.p.2.1, .int .i64 r.p.2.2]
def ltBR (a b : BtR) : Bool := ltB a.p b.p
set_option maxRecDepth 100000 in
set_option maxHeartbeats 4000000 in
theorem bestb_any (v : Value) (qs : List BtR) (w : World) (hq : RowOf btrC w v qs) (hi : ∀ r, r ∈ qs → IntRowsAt w r.v r.p.1) (h0 : 0 < qs.length) :
 Calls Tryz.prog 70 #[v, .func (.func 71) #[] #[]] w fun e w' => ∃ x : BtR, x ∈ qs ∧ bestOf ltBR qs = some x ∧ e = .returned (.tuple #[.agg #[x.v, .int .i64 x.p.2.1, .int .i64 x.p.2.2], .bool true]) ∧ Ext w w' := by
 have ea := enters_betterB
 have HI := Lib.hid hi
 obtain ⟨va, vc, rfl, l1, l2, l3⟩ := RowOf.open3 (f := btrC) (fun _ => rfl) hq
 have HL3 := Lib.hid l3
 obtain ⟨W, hW⟩ : ∃ W, W = (w.alloc (.cells #[.slice none 0 0, .int .i64 0, .int .i64 0] 132)).alloc (.cells #[.slice none 0 0, .int .i64 0, .int .i64 0] 132) := ⟨_, rfl⟩
 have hz4 : W.heap[w.heap.size]? = some (.cells #[.slice none 0 0, .int .i64 0, .int .i64 0] 132) := by rw [hW]; exact (((Ext.refl (w.alloc (.cells #[.slice none 0 0, .int .i64 0, .int .i64 0] 132))).alloc _).block (by simp)).trans (World.alloc_heap_new _ _)
 have hz6 : W.heap[w.heap.size + 1]? = some (.cells #[.slice none 0 0, .int .i64 0, .int .i64 0] 132) := by
  rw [hW]; have := World.alloc_heap_new (w.alloc (.cells #[.slice none 0 0, .int .i64 0, .int .i64 0] 132)) (.cells #[.slice none 0 0, .int .i64 0, .int .i64 0] 132); rwa [World.size_alloc] at this
 have HX0 := Lib.hid (show Ext w W by rw [hW]; exact ((Ext.refl w).alloc _).alloc _)
 clear l3 hq hi
 go_enter Tryz.func70, Tryz.ntmps70
 go_upto_region 2 with fail
 rw [← hW]
 clear hW
 go_wp2
 go_loopw [11] (fun i wr => ∃ (k : Nat) (q0 q1 q2 : Value), k ≤ qs.length ∧ i = .int .i64 (k : Int) ∧ Hid (k = 0 ∧ q0 = .slice none 0 0 ∧ q1 = .int .i64 0 ∧ q2 = .int .i64 0 ∨ ∃ q : BtR, q ∈ qs ∧ q0 = q.v ∧ q1 = .int .i64 q.p.2.1 ∧ q2 = .int .i64 q.p.2.2 ∧ bestOf ltBR (qs.take k) = some q) ∧ Ext w wr ∧ Hid (wr.heap[w.heap.size]? = some (.cells #[.slice none 0 0, .int .i64 0, .int .i64 0] 132)) ∧ Hid (wr.heap[w.heap.size + 1]? = some (.cells #[q0, q1, q2] 132))) (fun i _ => qs.length - (intOf i).toNat)
 case atStart => exact ⟨0, _, _, _, Nat.zero_le _, rfl, .inl ⟨rfl, rfl, rfl, rfl⟩, HX0.out, hz4, hz6⟩
 case round =>
  obtain ⟨k, q0, q1, q2, hk, rfl, hbo, hx, h4, h6⟩ := hrel
  by_cases hlt : k < qs.length
  ·obtain ⟨bb, bo, p, rfl, hpk, c0, c1, c2⟩ := HL3.out k hlt
   have hpm := List.mem_of_getElem? hpk.out
   have hpi := HI.out p hpm
   obtain ⟨pa, pc, hpv, _⟩ := hpi.open
   have HPI := Lib.hid hpi
   rw [hpv] at c0
   have d0 := hx.cell c0
   have d1 := hx.cell c1
   have d2 := hx.cell c2
   have k1 : (0 : Int) ≤ (k : Int) := by omega
   have k2 : (k : Int) < (qs.length : Int) := by omega
   have hsz : w.heap.size + 1 < wr.heap.size := (Array.getElem?_eq_some_iff.1 h6.out).1
   obtain ⟨W1, hW1⟩ : ∃ W1, W1 = wr.alloc (.cells #[.slice pa p.p.1.length pc, .int .i64 p.p.2.1, .int .i64 p.p.2.2] 132) := ⟨_, rfl⟩
   have hx1 : Ext wr W1 := by rw [hW1]; exact (Ext.refl wr).alloc _
   have g0 : W1.cell? ⟨wr.heap.size, 0, none⟩ = some (.slice pa p.p.1.length pc) := by rw [hW1]; go_simp
   have g1 : W1.cell? ⟨wr.heap.size, 1, none⟩ = some (.int .i64 p.p.2.1) := by rw [hW1]; go_simp
   have g2 : W1.cell? ⟨wr.heap.size, 2, none⟩ = some (.int .i64 p.p.2.2) := by rw [hW1]; go_simp
   have HST := Lib.hid (fun (W2 : World) (h : Ext wr W2) (a0 a1 a2 : Value) => (⟨store3 ((h.block (by omega)).trans h6.out) a0 a1 a2, ((touch3 W2 (w.heap.size + 1) a0 a1 a2).keep _ _ ((h.block (by omega)).trans h4.out) (by omega)), Touch.ext (hx.trans h) (touch3 W2 (w.heap.size + 1) a0 a1 a2) (fun i hi => by omega)⟩ : _ ∧ _ ∧ _))
   have HKP := Lib.hid (fun (W2 : World) (h : Ext wr W2) => (⟨hx.trans h, (h.block (by omega)).trans h4.out, (h.block (by omega)).trans h6.out⟩ : _ ∧ _ ∧ _))
   clear c0 c1 c2 h4 hx hpi
   cases hk0 : decide (k = 0) with
   | true =>
    have hk0' : k = 0 := by simpa using hk0
    have t0 : ((k : Int) == 0) = true := by rw [hk0']; rfl
    have t1 : (k == 0) = true := by rw [hk0']; rfl
    have HB := Lib.hid (show bestOf ltBR (qs.take (k + 1)) = some p by have h := hpk.out; rw [hk0'] at h ⊢; exact bestOf_one h)
    obtain ⟨⟨y0, y1, y2⟩, x0, x1, x2⟩ := cells3 ((hx1.block (by omega)).trans h6.out)
    have HQ := Lib.hid (HST.out W1 hx1 (.slice pa p.p.1.length pc) (.int .i64 p.p.2.1) (.int .i64 p.p.2.2))
    clear HST HKP h6 hbo hpk hk0 hk0'
    go_upto_region 5 with fail
    rw [← hW1]
    clear hW1
    go_wp2
    go_roundw
    case rel => exact ⟨k + 1, _, _, _, by omega, by go_num, .inr ⟨p, hpm, hpv.symm, rfl, rfl, HB.out⟩, HQ.out.2.2, HQ.out.2.1, HQ.out.1⟩
    case measure => simp [intOf]; omega
   | false =>
    have hk0' : 0 < k := by have : ¬ k = 0 := by simpa using hk0
                            omega
    have t0 : ((k : Int) == 0) = false := by rw [beq_eq_false_iff_ne]; omega
    have t1 : (k == 0) = false := by rw [beq_eq_false_iff_ne]; omega
    obtain ⟨q, hqm, rfl, rfl, rfl, hbq⟩ := hbo.out.resolve_left (fun h => by omega)
    have hqi := HI.out q hqm
    obtain ⟨qa, qc, hqv, _⟩ := hqi.open
    have HB := Lib.hid (bestOf_more (lt := ltBR) hpk.out hbq)
    have HQI := Lib.hid hqi
    rw [hqv] at h6
    obtain ⟨⟨y0, y1, y2⟩, _⟩ := cells3 ((hx1.block (by omega)).trans h6.out)
    have HC := Lib.hid (fun (W2 : World) (h : Ext W1 W2) => (⟨h.cell g0, h.cell g1, h.cell g2, cells3 (((hx1.trans h).block (by omega)).trans h6.out)⟩ : _ ∧ _ ∧ _ ∧ _))
    have HAK := Lib.hid (fun W2 (h : Ext w W2) => betterB_any p.v q.v p.p q.p W2 (HPI.out.ext h) (HQI.out.ext h))
    rw [hpv, hqv] at HAK
    have HWX := Lib.hid ((HKP.out W1 hx1).1)
    have HX1 := Lib.hid hx1
    clear hbo hpk hk0 hk0' h6 hx1 hbq hqi
    cases hlq : ltB p.p q.p with
    | true =>
     rw [hlq] at HAK
     rw [show ltBR p q = true from hlq, if_pos rfl] at HB
     clear HKP hlq
     go_upto_region 5 with fail
     rw [← hW1]
     clear hW1
     go_wp2_with (refine Calls.mono (HAK.out _ HWX.out) ?_; rintro e w2 ⟨rfl, hx2⟩; clear g0 g1 g2 y0 y1 y2; obtain ⟨g0, g1, g2, ⟨y0, y1, y2⟩, x0, x1, x2⟩ := HC.out _ hx2; have HQ := Lib.hid (HST.out w2 (HX1.out.trans hx2) (.slice pa p.p.1.length pc) (.int .i64 p.p.2.1) (.int .i64 p.p.2.2)))
     go_roundw
     case rel => exact ⟨k + 1, _, _, _, by omega, by go_num, .inr ⟨p, hpm, hpv.symm, rfl, rfl, HB.out⟩, HQ.out.2.2, HQ.out.2.1, HQ.out.1⟩
     case measure => simp [intOf]; omega
    | false =>
     rw [hlq] at HAK
     rw [show ltBR p q = false from hlq, if_neg (by decide)] at HB
     clear HST hlq
     go_upto_region 5 with fail
     rw [← hW1]
     clear hW1
     go_wp2_with (refine Calls.mono (HAK.out _ HWX.out) ?_; rintro e w2 ⟨rfl, hx2⟩; have HQ := Lib.hid (HKP.out w2 (HX1.out.trans hx2)))
     go_roundw
     case rel => exact ⟨k + 1, q.v, .int .i64 q.p.2.1, .int .i64 q.p.2.2, by omega, by go_num, .inr ⟨q, hqm, rfl, rfl, rfl, HB.out⟩, HQ.out.1, HQ.out.2.1, HQ.out.2.2⟩
     case measure => simp [intOf]; omega
  ·have hke : k = qs.length := by omega
   obtain ⟨q, hqm, rfl, rfl, rfl, hbq⟩ := hbo.out.resolve_left (fun h => by omega)
   rw [List.take_of_length_le (by omega)] at hbq
   obtain ⟨qa, qc, hqv, _⟩ := (HI.out q hqm).open
   have HFIN := Lib.hid (And.intro hqm hbq)
   have HQV := Lib.hid hqv
   rw [hqv] at h6
   obtain ⟨⟨y0, y1, y2⟩, _⟩ := cells3 h6.out
   obtain ⟨⟨g0, g1, g2⟩, x0, x1, x2⟩ := cells3 h4.out
   have t2 : (0 : Int) < (qs.length : Int) := by omega
   have HST := Lib.hid (⟨store3 h4.out (.slice qa q.p.1.length qc) (.int .i64 q.p.2.1) (.int .i64 q.p.2.2), Touch.ext hx (touch3 wr w.heap.size (.slice qa q.p.1.length qc) (.int .i64 q.p.2.1) (.int .i64 q.p.2.2)) (fun i hi => by omega)⟩ : _ ∧ _)
   clear h4 h6 hbo hbq hx hqv
   go_wp2
   obtain ⟨⟨g0, g1, g2⟩, _⟩ := cells3 HST.out.1
   have HX := Lib.hid HST.out.2
   clear HST
   generalize hW6 : (World.setCell _ _ _) = W6 at *
   refine bodyPost_ret (v := .tuple #[.agg #[.slice qa q.p.1.length qc, .int .i64 q.p.2.1, .int .i64 q.p.2.2], .bool true]) (by simp [results, Tryz.results70, go_sem, g0, g1, g2]) rfl ⟨q, HFIN.out.1, HFIN.out.2, by rw [HQV.out], HX.out⟩
theorem bestb_nil (a : Option Addr) (c : Nat) (w : World) :
 Calls Tryz.prog 70 #[.slice a 0 c, .func (.func 71) #[] #[]] w fun e w' => e = .returned (.tuple #[.agg #[.slice none 0 0, .int .i64 0, .int .i64 0], .bool false]) ∧ Ext w w' := by
 obtain ⟨W, hW⟩ : ∃ W, W = (w.alloc (.cells #[.slice none 0 0, .int .i64 0, .int .i64 0] 132)).alloc (.cells #[.slice none 0 0, .int .i64 0, .int .i64 0] 132) := ⟨_, rfl⟩
 have hz4 : W.heap[w.heap.size]? = some (.cells #[.slice none 0 0, .int .i64 0, .int .i64 0] 132) := by rw [hW]; exact (((Ext.refl (w.alloc (.cells #[.slice none 0 0, .int .i64 0, .int .i64 0] 132))).alloc _).block (by simp)).trans (World.alloc_heap_new _ _)
 have hz6 : W.heap[w.heap.size + 1]? = some (.cells #[.slice none 0 0, .int .i64 0, .int .i64 0] 132) := by
  rw [hW]; have := World.alloc_heap_new (w.alloc (.cells #[.slice none 0 0, .int .i64 0, .int .i64 0] 132)) (.cells #[.slice none 0 0, .int .i64 0, .int .i64 0] 132); rwa [World.size_alloc] at this
 have hx : Ext w W := by rw [hW]; exact ((Ext.refl w).alloc _).alloc _
 obtain ⟨⟨y0, y1, y2⟩, _⟩ := cells3 hz6
 obtain ⟨⟨g0, g1, g2⟩, x0, x1, x2⟩ := cells3 hz4
 have HST := Lib.hid (⟨store3 hz4 (.slice none 0 0) (.int .i64 0) (.int .i64 0), Touch.ext hx (touch3 W w.heap.size (.slice none 0 0) (.int .i64 0) (.int .i64 0)) (fun i hi => by omega)⟩ : _ ∧ _)
 clear hz4 hz6 hx
 go_enter Tryz.func70, Tryz.ntmps70
 go_upto_region 2 with fail
 rw [← hW]
 clear hW
 go_wp2
 go_loop [11] (fun i => i = .int .i64 0) (fun _ => 0)
 case atStart => rfl
 case round =>
  subst hrel
  skip
  go_wp2
  obtain ⟨⟨g0, g1, g2⟩, _⟩ := cells3 HST.out.1
  have HX := Lib.hid HST.out.2
  clear HST
  generalize hW6 : (World.setCell _ _ _) = W6 at *
  refine bodyPost_ret (v := .tuple #[.agg #[.slice none 0 0, .int .i64 0, .int .i64 0], .bool false]) (by simp [results, Tryz.results70, go_sem, g0, g1, g2]) rfl ⟨rfl, HX.out⟩
end Go.Proofs.YtokananogogjaaaGreatDoor
