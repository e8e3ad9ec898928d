/- Sellers and purchases as the reference defines them: Sellers, Purchase. -/
import Derived.Test.YtpebafaigldldaaGreatDoorOrv
namespace Go.Proofs.YtpebafaigldldaaGreatDoor
open Go.RowKit
def badU (m : Int) (v : Int) : Bool := !inB v 0 m
theorem badL_eq (n : Nat) (most : Int) (x : List Int) : badL n most x = (decide ((x.length : Int) ≠ n) || x.any (badU most)) := rfl
set_option maxRecDepth 100000 in
set_option maxHeartbeats 8000000 in
theorem rsellers_any (v : Value) (ls : List Seller) (n : Nat) (w : World) (hs : SellersAt w v ls) (hn : n ≤ 1000) :
 Calls Tryz.prog 35 #[v, .int .i64 (n : Int)] w fun e w' => e = .returned (.bool (isSellersB n ls)) ∧ Ext w w' := by
 obtain ⟨a, c, rfl, h1, h2, h3⟩ := hs.open
 have H3 := Lib.hid h3
 have hse : isSellersB n ls = (inB ls.length 1 4 && !(ls.any (badSeller n))) := rfl
 have HSE := Lib.hid hse
 clear hs h3 hse
 go_enter Tryz.func35, Tryz.ntmps35
 go_wp2
 go_loopw [5] (fun i wr => ∃ k : Nat, k ≤ ls.length ∧ i = .int .i64 (k : Int) ∧ Hid ((ls.take k).any (badSeller n) = false) ∧ Ext w wr) (fun i _ => ls.length - (intOf i).toNat)
 case atStart => exact ⟨0, Nat.zero_le _, rfl, by simp [Hid], Ext.refl _⟩
 case round =>
  obtain ⟨k, hk, rfl, ha, hx⟩ := hrel
  obtain ⟨wo, rfl⟩ : ∃ wo : World, wo = wr := ⟨_, rfl⟩
  by_cases hlt : k < ls.length
  ·obtain ⟨b, o, s, sa, sc, pa, pc, rfl, hsk, d0, d1, d2, hst, hpr⟩ := H3.out k hlt
   have k1 : (0 : Int) ≤ (k : Int) := by omega
   have k2 : (k : Int) < (ls.length : Int) := by omega
   have x1 : decide ((k : Int) < (ls.length : Int)) = true := by simpa using hlt
   have f0 := hx.cell d0
   have f1 := hx.cell d1
   have f2 := hx.cell d2
   have HB0 : Hid (badSeller n s = true → isSellersB n ls = false) := fun h => by rw [HSE.out, any_at hsk.out h]; simp
   have HBS : Hid (badSeller n s = (!inB s.parcel 0 1000 || (decide ((s.stock.length : Int) ≠ n) || s.stock.any (badU 100)) || (decide ((s.price.length : Int) ≠ n) || s.price.any (badU 1000)))) := rfl
   obtain ⟨W5, hW5⟩ : ∃ W5, W5 = wo.alloc (.cells #[.int .i64 s.parcel, .slice sa s.stock.length sc, .slice pa s.price.length pc] 79) := ⟨_, rfl⟩
   have hx5 : Ext w W5 := by rw [hW5]; exact hx.alloc _
   have HB5 := Lib.hid (show W5.heap[wo.heap.size]? = some (.cells #[.int .i64 s.parcel, .slice sa s.stock.length sc, .slice pa s.price.length pc] 79) by rw [hW5]; exact World.alloc_heap_new _ _)
   obtain ⟨⟨y0, y1, y2⟩, -⟩ := cells3 HB5.out
   have HI := Lib.hid (fun W1 => rin_any s.parcel 0 1000 W1)
   have HX5 := Lib.hid hx5
   have HST := Lib.hid hst
   have HPR := Lib.hid hpr
   clear hst hpr d0 d1 d2 hx5 hx
   go_upto_region 5 with fail
   rw [← hW5]
   clear hW5 f0 f1 f2
   cases i1 : inB s.parcel 0 1000 with
   | false =>
    rw [i1] at HI
    have HR := Lib.hid (HB0.out (by rw [HBS.out, i1]; rfl))
    clear i1 ha hsk
    go_wp2_with (go_at_call 72; refine (HI.out _).mono ?_; rintro e w' ⟨rfl, rfl⟩)
    go_ret
    exact ⟨by rw [HR.out] <;> rfl, HX5.out⟩
   | true =>
   rw [i1] at HI
   by_cases i2 : s.stock.length = n
   rotate_left
   ·have t2 : ((s.stock.length : Int) != (n : Int)) = true := by simp; omega
    have HR := Lib.hid (HB0.out (by rw [HBS.out, decide_eq_true (show (s.stock.length : Int) ≠ n by omega)]; simp))
    clear i1 i2 ha hsk
    go_wp2_with (go_at_call 72; refine (HI.out _).mono ?_; rintro e w' ⟨rfl, rfl⟩)
    go_ret
    exact ⟨by rw [HR.out] <;> rfl, HX5.out⟩
   have t2 : ((s.stock.length : Int) != (n : Int)) = false := by simp; omega
   by_cases i3 : s.price.length = n
   rotate_left
   ·have t3 : ((s.price.length : Int) != (n : Int)) = true := by simp; omega
    have HR := Lib.hid (HB0.out (by rw [HBS.out, decide_eq_true (show (s.price.length : Int) ≠ n by omega)]; simp))
    clear i1 i2 i3 ha hsk
    go_wp2_with (go_at_call 72; refine (HI.out _).mono ?_; rintro e w' ⟨rfl, rfl⟩)
    go_ret
    exact ⟨by rw [HR.out] <;> rfl, HX5.out⟩
   have t3 : ((s.price.length : Int) != (n : Int)) = false := by simp; omega
   have HBR : Hid (badSeller n s = (s.stock.any (badU 100) || s.price.any (badU 1000))) := by
    unfold Hid; rw [HBS.out, i1, decide_eq_false (show ¬ (s.stock.length : Int) ≠ n by omega), decide_eq_false (show ¬ (s.price.length : Int) ≠ n by omega)]; rfl
   have HSK := Lib.hid hsk.out
   have HA := Lib.hid ha.out
   have HL2 := Lib.hid (And.intro i2 i3)
   obtain ⟨_, _, hve, _, _, hs3⟩ := HST.out.open
   cases hve
   obtain ⟨_, _, hve, _, _, hp3⟩ := HPR.out.open
   cases hve
   have HS3 := Lib.hid hs3
   have HP3 := Lib.hid hp3
   clear i1 i2 i3 ha hsk hs3 hp3 HBS
   go_wp2_with (go_at_call 72; refine (HI.out _).mono ?_; rintro e w' ⟨rfl, rfl⟩)
   clear HI t2 t3
   go_loop [7] (fun i => ∃ g : Nat, g ≤ n ∧ i = .int .i64 (g : Int) ∧ Hid ((s.stock.take g).any (badU 100) = false ∧ (s.price.take g).any (badU 1000) = false)) (fun i => n - (intOf i).toNat)
   case atStart => exact ⟨0, Nat.zero_le _, rfl, by simp [Hid]⟩
   case round =>
    obtain ⟨g, hg, rfl, hab⟩ := hrel
    obtain ⟨l1, l2⟩ := HL2.out
    by_cases hgl : g < n
    ·obtain ⟨sb, so, x, rfl, hxk, c0⟩ := HS3.out g (by omega)
     obtain ⟨qb, qo, z, rfl, hzk, c1⟩ := HP3.out g (by omega)
     have j1 : (0 : Int) ≤ (g : Int) := by omega
     have j2 : (g : Int) < (s.stock.length : Int) := by omega
     have j3 : (g : Int) < (s.price.length : Int) := by omega
     have x2 : decide ((g : Int) < (n : Int)) = true := by simpa using hgl
     have m0 := HX5.out.cell c0
     have m1 := HX5.out.cell c1
     have HI1 := Lib.hid (fun W1 => rin_any x 0 100 W1)
     have HI2 := Lib.hid (fun W1 => rin_any z 0 1000 W1)
     clear c0 c1 l1 l2
     cases i1 : inB x 0 100 with
     | false =>
      rw [i1] at HI1
      have HR := Lib.hid (HB0.out (by rw [HBR.out, any_at hxk.out (show badU 100 x = true by unfold badU; rw [i1]; rfl)]; rfl))
      clear i1 hab hxk hzk HI2
      go_wp2_with (go_at_call 72; refine (HI1.out _).mono ?_; rintro e w' ⟨rfl, rfl⟩)
      go_ret
      exact ⟨by rw [HR.out] <;> rfl, HX5.out⟩
     | true =>
     rw [i1] at HI1
     cases i2 : inB z 0 1000 with
     | false =>
      rw [i2] at HI2
      have HR := Lib.hid (HB0.out (by rw [HBR.out, any_at hzk.out (show badU 1000 z = true by unfold badU; rw [i2]; rfl)]; simp))
      clear i1 i2 hab hxk hzk
      go_wp2_with (first | (go_at_call 72; refine (HI1.out _).mono ?_; rintro e w' ⟨rfl, rfl⟩; clear HI1) | (go_at_call 72; refine (HI2.out _).mono ?_; rintro e w' ⟨rfl, rfl⟩; clear HI2))
      go_ret
      exact ⟨by rw [HR.out] <;> rfl, HX5.out⟩
     | true =>
      rw [i2] at HI2
      have HAB := Lib.hid (And.intro (any_take hxk.out hab.out.1 (show badU 100 x = false by unfold badU; rw [i1]; rfl)) (any_take hzk.out hab.out.2 (show badU 1000 z = false by unfold badU; rw [i2]; rfl)))
      clear i1 i2 hab hxk hzk
      go_wp2_with (first | (go_at_call 72; refine (HI1.out _).mono ?_; rintro e w' ⟨rfl, rfl⟩; clear HI1) | (go_at_call 72; refine (HI2.out _).mono ?_; rintro e w' ⟨rfl, rfl⟩; clear HI2))
      go_round
      case rel => exact ⟨g + 1, by omega, by go_num, HAB.out⟩
      case measure => simp [intOf]; omega
    ·have x2 : decide ((g : Int) < (n : Int)) = false := by simpa using hgl
     have hab2 := hab.out
     rw [List.take_of_length_le (by omega), List.take_of_length_le (by omega)] at hab2
     have HA2 := Lib.hid (any_take HSK.out HA.out (show badSeller n s = false by rw [HBR.out, hab2.1, hab2.2]; rfl))
     clear hab hab2 l1 l2
     go_wp2
     exact ⟨⟨k + 1, by omega, by go_num, HA2.out, HX5.out⟩, by simp [intOf]; omega⟩
  ·have x1 : decide ((k : Int) < (ls.length : Int)) = false := by simpa using hlt
   have ha2 := ha.out
   rw [List.take_of_length_le (by omega)] at ha2
   have HR : Hid (isSellersB n ls = inB ls.length 1 4) := by unfold Hid; rw [HSE.out, ha2]; simp
   have HX := Lib.hid hx
   clear ha ha2 hx
   go_wp2_with (go_at_call 72; refine (rin_any _ _ _ _).mono ?_; rintro e w' ⟨rfl, rfl⟩)
   go_ret
   exact ⟨by rw [HR.out] <;> rfl, HX.out⟩
theorem ints_oneK (xs : List Int) : ∀ u, u ∈ xs.map (Value.int .i64) → u.oneCell' = true := fun u hu => by
 obtain ⟨x, _, rfl⟩ := List.mem_map.1 hu
 rfl
set_option maxRecDepth 100000 in
set_option maxHeartbeats 16000000 in
theorem rpurchase_any (lv wv pv : Value) (ls : List Seller) (wants : List Int) (plan : List (List Int)) (w : World) (hS : SellersB ls wants) (hl : SellersAt w lv ls) (hw : IntsAt w wv wants) (hp : IntRowsAt w pv plan) :
 Calls Tryz.prog 44 #[lv, wv, pv] w fun e w' => e = .returned (.bool (isPurchaseB ls wants plan)) ∧ Ext w w' := by
 have hmix : Tryz.prog.follows .mixedOrders = true := by kernel_rfl
 have HWV := Lib.hid hw
 obtain ⟨la, lc, rfl, hl1, hl2, hl3⟩ := hl.open
 obtain ⟨wa, wc, rfl, hw1, hw2, _⟩ := hw.open
 obtain ⟨pa, pc, rfl, hp1, hp2, hp3⟩ := hp.open
 have HL3 := Lib.hid hl3
 have HP3 := Lib.hid hp3
 have HS := Lib.hid hS
 have hn4 := hS.l4
 have hn5 := hS.w5
 have hn1 := hS.w1
 clear hl hw hp hl3 hp3 hS
 by_cases hlen : plan.length = ls.length
 rotate_left
 ·have t0 : ((plan.length : Int) != (ls.length : Int)) = true := by simp; omega
  have HR : Hid (isPurchaseB ls wants plan = false) := by unfold Hid isPurchaseB; rw [decide_eq_false (by omega)]; rfl
  clear hlen
  go_enter Tryz.func44, Tryz.ntmps44
  go_wp2
  go_ret
  exact ⟨by rw [HR.out] <;> rfl, Ext.refl _⟩
 have t0 : ((plan.length : Int) != (ls.length : Int)) = false := by simp; omega
 have HLEN := Lib.hid hlen
 clear hlen
 go_enter Tryz.func44, Tryz.ntmps44
 go_upto_region 4 with (at_builtin; refine wpList_append_row E_ints rfl _ _ rfl w.heap.size rfl (World.ownsRow_nil _ _ _ _) rfl HWV.out (by simp) (ints_oneK _) ?_ (by unfold maxLen; omega) (by omega) (Nat.le_refl _); intro v1 w1 hown1 hgrow1 _; have hx1 : Ext w w1 := Ext.grown (Ext.refl w) hgrow1 (fun k hk => by cases hk); clear hgrow1; simp only [Nat.zero_add, List.nil_append] at hown1; obtain ⟨g, cap, rfl, hg1, hg2⟩ := owns_some hown1 (by omega); have HOWN := Lib.hid hown1; have HX1 := Lib.hid hx1; clear hown1 hx1)
 go_wp2
 go_loopw [8] (fun j wr => ∃ i : Nat, i ≤ plan.length ∧ j = .int .i64 (i : Int) ∧ Hid (badRows wants.length ls (plan.take i) = false ∧ ∀ y, y ∈ leftOf wants (plan.take i) → -100 * (i : Int) ≤ y ∧ y ≤ 400) ∧
  wr.ownsRow w.heap.size 3 1 (.slice (some ⟨g, 0, none⟩) wants.length cap) wants.length ((leftOf wants (plan.take i)).map (.int .i64)) ∧ Ext w wr) (fun j _ => plan.length - (intOf j).toNat)
 case atStart =>
  refine ⟨0, Nat.zero_le _, rfl, ⟨by rw [List.take_zero]; cases ls <;> rfl, fun y hy => ?_⟩, HOWN.out, HX1.out⟩
  have := HS.out.want y hy
  omega
 case round =>
  obtain ⟨i, hi, rfl, hbad, hown, hx⟩ := hrel
  have hlen := HLEN.out
  by_cases hlt : i < plan.length
  ·obtain ⟨pb, po, r, ra, rc, rfl, hrk, d0, hri, hr1, hr2⟩ := HP3.out i hlt
   obtain ⟨lb, lo, s, sa, sc, qa, qc, rfl, hsk, e0, e1, e2, hst, hpr⟩ := HL3.out i (by omega)
   have hso := HS.out.one s (List.mem_of_getElem? hsk.out)
   have i1 : (0 : Int) ≤ (i : Int) := by omega
   have i2 : (i : Int) < (plan.length : Int) := by omega
   have i3 : (i : Int) < (ls.length : Int) := by omega
   have x1 : decide ((i : Int) < (plan.length : Int)) = true := by simpa using hlt
   have f0 := hx.cell d0
   have hi4 : i < 4 := by omega
   have HX := Lib.hid hx
   obtain ⟨L, hL⟩ : ∃ L, leftOf wants (plan.take i) = L := ⟨_, rfl⟩
   rw [hL] at hbad hown
   have HBT := Lib.hid (badRows_take (n := wants.length) hsk.out hrk.out)
   have HLT := Lib.hid (left_take wants hrk.out)
   rw [hL] at HLT
   have HLL := Lib.hid (show L.length = wants.length by rw [← hL]; exact left_len _ _)
   by_cases hrl : r.length = wants.length
   rotate_left
   ·have t1 : ((r.length : Int) != (wants.length : Int)) = true := by simp; omega
    have HNO := Lib.hid (not_purchase (wants := wants) (badRows_at (n := wants.length) hsk.out hrk.out (.inl hrl)))
    clear hrl hbad hown hx hL d0 e0 e1 e2 hst hpr hri hlen
    go_wp2
    go_ret
    exact ⟨by rw [HNO.out] <;> rfl, HX.out⟩
   have t1 : ((r.length : Int) != (wants.length : Int)) = false := by simp; omega
   have HBAD := Lib.hid hbad
   have HOWN2 := Lib.hid hown
   have HSO := Lib.hid hso
   have HRL := Lib.hid hrl
   have HD := Lib.hid (fun (W1 : World) (h : Ext w W1) => (⟨h.cell d0, h.cell e0, h.cell e1, h.cell e2⟩ : _ ∧ _ ∧ _ ∧ _))
   obtain ⟨_, _, hve, _, _, hr3⟩ := hri.open
   cases hve
   obtain ⟨_, _, hve, _, _, hs3⟩ := hst.open
   cases hve
   have HR3 := Lib.hid hr3
   have HS3 := Lib.hid hs3
   have HRK := Lib.hid hrk.out
   have HSK := Lib.hid hsk.out
   clear hbad hown hx hL d0 e0 e1 e2 hst hpr hri hso hr3 hs3 hrl hrk hsk hlen
   go_wp2
   clear f0
   obtain ⟨wo, rfl⟩ : ∃ wo : World, wo = wr := ⟨_, rfl⟩
   go_loopw [9] (fun j wz => ∃ k : Nat, k ≤ r.length ∧ j = .int .i64 (k : Int) ∧ Hid (overL (r.take k) s.stock = false) ∧
    wz.ownsRow w.heap.size 3 1 (.slice (some ⟨g, 0, none⟩) wants.length cap) wants.length ((subL L (r.take k)).map (.int .i64)) ∧ Ext w wz) (fun j _ => r.length - (intOf j).toNat)
   case atStart => exact ⟨0, Nat.zero_le _, rfl, by simp [Hid, overL], by have h := HOWN2.out; rw [List.take_zero]; cases L <;> exact h, HX.out⟩
   case round =>
    obtain ⟨k, hk, rfl, hov, hown, hx⟩ := hrel
    have hrl := HRL.out
    have hsl := HSO.out.2.1
    by_cases hlt2 : k < r.length
    ·obtain ⟨rb, ro, x, rfl, hxk, c0⟩ := HR3.out k hlt2
     obtain ⟨sb, so, y, rfl, hyk, c1⟩ := HS3.out k (by omega)
     have k1 : (0 : Int) ≤ (k : Int) := by omega
     have k2 : (k : Int) < (r.length : Int) := by omega
     have k3 : (k : Int) < (s.stock.length : Int) := by omega
     have k5 : (k : Int) < (wants.length : Int) := by omega
     have z1 : decide ((k : Int) < (wants.length : Int)) = true := by simp; omega
     have HFX := Lib.hid (fun (W1 : World) (h : Ext wr W1) => (⟨HD.out _ (hx.trans h), (hx.trans h).cell c0, (hx.trans h).cell c1⟩ : (_ ∧ _ ∧ _ ∧ _) ∧ _ ∧ _))
     have hyb := HSO.out.2.2.2.1 y (List.mem_of_getElem? hyk.out)
     have HIN := Lib.hid (fun W1 => rin_any x 0 y W1)
     have HX2 := Lib.hid hx
     cases hin : inB x 0 y with
     | false =>
      rw [hin] at HIN
      have HNO := Lib.hid (not_purchase (wants := wants) (badRows_at (n := wants.length) HSK.out HRK.out (.inr (over_at hxk.out hyk.out hin))))
      clear hin hown hx hov c0 c1 hrl hsl hyb hxk hyk
      go_upto_region 12 with fail
      refine region_reads (C := fun W => Ext wr W) (by kernel_rfl) (by kernel_rfl) ((Ext.refl wr).drew) ?_
      repeat (first | go_big_quiet_skip | (go_big_quiet_want; go_big_quiet_op; first | go_big_quiet_on | (refine ⟨_, fun W hW => rfl, ?_⟩; go_big_quiet_on)) | (go_big_quiet_want; refine ⟨?_, fun W hW => ?_, ?_⟩; rotate_left; (· (obtain ⟨⟨f0, g0, g1, g2⟩, m0, m1⟩ := HFX.out W hW; go_simp; (first | with_reducible rfl | (go_at_call 72; refine (HIN.out _).mono ?_; rintro e w' ⟨rfl, rfl⟩; constructor; with_reducible rfl; exact hW)))); (try simp only [Act.put, yA, yB, yC]); go_big_quiet_on))
      refine wpQuiet_nil ?_
      intro wq hq
      go_wp2
      go_ret
      exact ⟨by rw [HNO.out] <;> rfl, HX2.out.trans hq⟩
     | true =>
      have hxb := inB_iff.1 hin
      have hov2 : overL (r.take (k + 1)) s.stock = false := by rw [over_take hxk.out hyk.out, hov.out, hin]; rfl
      obtain ⟨old, hold⟩ : ∃ old, L[k]? = some old := ⟨_, List.getElem?_eq_getElem (by have := HLL.out; omega)⟩
      have hst := sub_take hold hxk.out
      have hob := HBAD.out.2 old (List.mem_of_getElem? hold)
      have HW1 := Lib.hid (IntWalk.i64_in (old - x) (by omega))
      rw [hin] at HIN
      have HST := Lib.hid hst
      have HOV2 := Lib.hid hov2
      have HOWNZ := Lib.hid hown
      have HC := Lib.hid (And.intro c0 c1)
      clear hrl hsl hin hown hx hov hov2 hst hold hob hyb hxb c0 c1 hxk hyk
      go_upto_region 12 with fail
      refine region_reads (C := fun W => Ext wr W) (by kernel_rfl) (by kernel_rfl) ((Ext.refl wr).drew) ?_
      repeat (first | go_big_quiet_skip | (go_big_quiet_want; go_big_quiet_op; first | go_big_quiet_on | (refine ⟨_, fun W hW => rfl, ?_⟩; go_big_quiet_on)) | (go_big_quiet_want; refine ⟨?_, fun W hW => ?_, ?_⟩; rotate_left; (· (obtain ⟨⟨f0, g0, g1, g2⟩, m0, m1⟩ := HFX.out W hW; go_simp; (first | with_reducible rfl | (go_at_call 72; refine (HIN.out _).mono ?_; rintro e w' ⟨rfl, rfl⟩; constructor; with_reducible rfl; exact hW)))); (try simp only [Act.put, yA, yB, yC]); go_big_quiet_on))
      refine wpQuiet_nil ?_
      intro wq hq
      have hown := owns_ext HOWNZ.out hq
      have l0 : wq.cell? ⟨g, k, none⟩ = some (.int .i64 old) := by rw [hown.cellAt k (by omega), List.getElem?_map, HST.out.2]; rfl
      have lf := hown.frozenAt k
      have hst5 := ((show (World.drew wq).ownsRow w.heap.size 3 1 (.slice (some ⟨g, 0, none⟩) wants.length cap) wants.length ((subL L (r.take k)).map (.int .i64)) from owns_ext hown (Ext.refl wq).drew).stored k (.int .i64 (old - x))).1
      rw [← List.map_set, ← HST.out.1] at hst5
      have HST5 := Lib.hid hst5
      have HX5 := Lib.hid ((HX2.out.trans hq).drew.setCell (p := ⟨g, k, none⟩) hg1 (.int .i64 (old - x)))
      obtain ⟨⟨f0, g0, g1, g2⟩, m0, m1⟩ := HFX.out _ hq
      clear hown hst5
      go_upto_region 14 with fail
      refine wp_region_noPanic ?_
      refine wp_region_any (by kernel_rfl) (wpAny_of_till (z := 15) (S := (fun w' => w'.cell? ⟨g, k, none⟩ = some (.int .i64 old) ∧ w'.cell? ⟨pb, po + i, none⟩ = some (.slice (some ⟨rb, ro, none⟩) r.length rc) ∧ w'.cell? ⟨rb, ro + k, none⟩ = some (.int .i64 x))) _ _ _ _ ?_)
      change wpTill _ _ _ _ _ _ _ _ _ wq.drew
      have hS0 := (show (World.drew wq).cell? ⟨g, k, none⟩ = some (.int .i64 old) ∧ (World.drew wq).cell? ⟨pb, po + i, none⟩ = some (.slice (some ⟨rb, ro, none⟩) r.length rc) ∧ (World.drew wq).cell? ⟨rb, ro + k, none⟩ = some (.int .i64 x) from ⟨l0, f0, m0⟩)
      refine till_at (i := 0) (d := some 55) (v := ?_) (by kernel_rfl) (by kernel_rfl) (by kernel_rfl) (by kernel_rfl) (by kernel_rfl) (fun _ _ _ h => h) (fun o ho => ?_) hS0 ?_
      rotate_left
      · simp only [List.getElem?_toArray, List.getElem?_cons_zero, Option.some.injEq] at ho
        subst ho
        refine Or.inl ⟨by rfl, fun w' hSw => ?_⟩
        obtain ⟨hSw0, hSw1, hSw2⟩ := hSw
        go_simp
        try with_reducible rfl
      try simp only [Act.put, List.setIfInBounds_toArray, List.set_cons_zero, List.set_cons_succ]
      refine till_at (i := 1) (d := some 56) (v := ?_) (by kernel_rfl) (by kernel_rfl) (by kernel_rfl) (by kernel_rfl) (by kernel_rfl) (fun _ _ _ h => h) (fun o ho => ?_) hS0 ?_
      rotate_left
      · simp only [List.getElem?_toArray, List.getElem?_cons_zero, List.getElem?_cons_succ, Option.some.injEq] at ho
        subst ho
        refine Or.inl ⟨by rfl, fun w' hSw => ?_⟩
        obtain ⟨hSw0, hSw1, hSw2⟩ := hSw
        go_simp
        try with_reducible rfl
      try simp only [Act.put, List.setIfInBounds_toArray, List.set_cons_zero, List.set_cons_succ]
      refine till_at (i := 2) (d := some 57) (v := ?_) (by kernel_rfl) (by kernel_rfl) (by kernel_rfl) (by kernel_rfl) (by kernel_rfl) (fun _ _ _ h => h) (fun o ho => ?_) hS0 ?_
      rotate_left
      · simp only [List.getElem?_toArray, List.getElem?_cons_zero, List.getElem?_cons_succ, Option.some.injEq] at ho
        subst ho
        refine Or.inl ⟨by rfl, fun w' hSw => ?_⟩
        obtain ⟨hSw0, hSw1, hSw2⟩ := hSw
        go_simp
        try with_reducible rfl
      try simp only [Act.put, List.setIfInBounds_toArray, List.set_cons_zero, List.set_cons_succ]
      refine till_at (i := 3) (d := some 58) (v := ?_) (by kernel_rfl) (by kernel_rfl) (by kernel_rfl) (by kernel_rfl) (by kernel_rfl) (fun _ _ _ h => h) (fun o ho => ?_) hS0 ?_
      rotate_left
      · simp only [List.getElem?_toArray, List.getElem?_cons_zero, List.getElem?_cons_succ, Option.some.injEq] at ho
        subst ho
        refine Or.inl ⟨by rfl, fun w' hSw => ?_⟩
        obtain ⟨hSw0, hSw1, hSw2⟩ := hSw
        go_simp
        try with_reducible rfl
      try simp only [Act.put, List.setIfInBounds_toArray, List.set_cons_zero, List.set_cons_succ]
      refine till_at (i := 4) (d := some 59) (v := ?_) (by kernel_rfl) (by kernel_rfl) (by kernel_rfl) (by kernel_rfl) (by kernel_rfl) (fun _ _ _ h => h) (fun o ho => ?_) hS0 ?_
      rotate_left
      · simp only [List.getElem?_toArray, List.getElem?_cons_zero, List.getElem?_cons_succ, Option.some.injEq] at ho
        subst ho
        refine Or.inl ⟨by rfl, fun w' hSw => ?_⟩
        obtain ⟨hSw0, hSw1, hSw2⟩ := hSw
        go_simp
        try with_reducible rfl
      try simp only [Act.put, List.setIfInBounds_toArray, List.set_cons_zero, List.set_cons_succ]
      refine till_at (i := 5) (d := some 60) (v := ?_) (by kernel_rfl) (by kernel_rfl) (by kernel_rfl) (by kernel_rfl) (by kernel_rfl) (fun _ _ _ h => h) (fun o ho => ?_) hS0 ?_
      rotate_left
      · simp only [List.getElem?_toArray, List.getElem?_cons_zero, List.getElem?_cons_succ, Option.some.injEq] at ho
        subst ho
        refine Or.inl ⟨by rfl, fun w' hSw => ?_⟩
        obtain ⟨hSw0, hSw1, hSw2⟩ := hSw
        go_simp
        try with_reducible rfl
      try simp only [Act.put, List.setIfInBounds_toArray, List.set_cons_zero, List.set_cons_succ]
      refine till_at (i := 6) (d := some 61) (v := ?_) (by kernel_rfl) (by kernel_rfl) (by kernel_rfl) (by kernel_rfl) (by kernel_rfl) (fun _ _ _ h => h) (fun o ho => ?_) hS0 ?_
      rotate_left
      · simp only [List.getElem?_toArray, List.getElem?_cons_zero, List.getElem?_cons_succ, Option.some.injEq] at ho
        subst ho
        refine Or.inl ⟨by rfl, fun w' hSw => ?_⟩
        obtain ⟨hSw0, hSw1, hSw2⟩ := hSw
        go_simp
        try with_reducible rfl
      try simp only [Act.put, List.setIfInBounds_toArray, List.set_cons_zero, List.set_cons_succ]
      refine till_at (i := 7) (d := some 62) (v := ?_) (by kernel_rfl) (by kernel_rfl) (by kernel_rfl) (by kernel_rfl) (by kernel_rfl) (fun _ _ _ h => h) (fun o ho => ?_) hS0 ?_
      rotate_left
      · simp only [List.getElem?_toArray, List.getElem?_cons_zero, List.getElem?_cons_succ, Option.some.injEq] at ho
        subst ho
        refine Or.inl ⟨by rfl, fun w' hSw => ?_⟩
        obtain ⟨hSw0, hSw1, hSw2⟩ := hSw
        go_simp
        try with_reducible rfl
      try simp only [Act.put, List.setIfInBounds_toArray, List.set_cons_zero, List.set_cons_succ]
      refine till_at (i := 8) (d := some 63) (v := ?_) (by kernel_rfl) (by kernel_rfl) (by kernel_rfl) (by kernel_rfl) (by kernel_rfl) (fun _ _ _ h => h) (fun o ho => ?_) hS0 ?_
      rotate_left
      · simp only [List.getElem?_toArray, List.getElem?_cons_zero, List.getElem?_cons_succ, Option.some.injEq] at ho
        subst ho
        refine Or.inl ⟨by rfl, fun w' hSw => ?_⟩
        obtain ⟨hSw0, hSw1, hSw2⟩ := hSw
        go_simp
        try with_reducible rfl
      try simp only [Act.put, List.setIfInBounds_toArray, List.set_cons_zero, List.set_cons_succ]
      refine till_at (i := 9) (d := some 64) (v := ?_) (by kernel_rfl) (by kernel_rfl) (by kernel_rfl) (by kernel_rfl) (by kernel_rfl) (fun _ _ _ h => h) (fun o ho => ?_) hS0 ?_
      rotate_left
      · simp only [List.getElem?_toArray, List.getElem?_cons_zero, List.getElem?_cons_succ, Option.some.injEq] at ho
        subst ho
        refine Or.inl ⟨by rfl, fun w' hSw => ?_⟩
        obtain ⟨hSw0, hSw1, hSw2⟩ := hSw
        go_simp
        try with_reducible rfl
      try simp only [Act.put, List.setIfInBounds_toArray, List.set_cons_zero, List.set_cons_succ]
      refine till_at (i := 10) (d := some 65) (v := ?_) (by kernel_rfl) (by kernel_rfl) (by kernel_rfl) (by kernel_rfl) (by kernel_rfl) (fun _ _ _ h => h) (fun o ho => ?_) hS0 ?_
      rotate_left
      · simp only [List.getElem?_toArray, List.getElem?_cons_zero, List.getElem?_cons_succ, Option.some.injEq] at ho
        subst ho
        refine Or.inl ⟨by rfl, fun w' hSw => ?_⟩
        obtain ⟨hSw0, hSw1, hSw2⟩ := hSw
        go_simp
        try with_reducible rfl
      try simp only [Act.put, List.setIfInBounds_toArray, List.set_cons_zero, List.set_cons_succ]
      refine till_at (i := 11) (d := some 66) (v := ?_) (by kernel_rfl) (by kernel_rfl) (by kernel_rfl) (by kernel_rfl) (by kernel_rfl) (fun _ _ _ h => h) (fun o ho => ?_) hS0 ?_
      rotate_left
      · simp only [List.getElem?_toArray, List.getElem?_cons_zero, List.getElem?_cons_succ, Option.some.injEq] at ho
        subst ho
        refine Or.inl ⟨by rfl, fun w' hSw => ?_⟩
        obtain ⟨hSw0, hSw1, hSw2⟩ := hSw
        go_simp
        try with_reducible rfl
      try simp only [Act.put, List.setIfInBounds_toArray, List.set_cons_zero, List.set_cons_succ]
      refine till_at (i := 12) (d := some 67) (v := ?_) (by kernel_rfl) (by kernel_rfl) (by kernel_rfl) (by kernel_rfl) (by kernel_rfl) (fun _ _ _ h => h) (fun o ho => ?_) hS0 ?_
      rotate_left
      · simp only [List.getElem?_toArray, List.getElem?_cons_zero, List.getElem?_cons_succ, Option.some.injEq] at ho
        subst ho
        refine Or.inl ⟨by rfl, fun w' hSw => ?_⟩
        obtain ⟨hSw0, hSw1, hSw2⟩ := hSw
        go_simp
        try with_reducible rfl
      try simp only [Act.put, List.setIfInBounds_toArray, List.set_cons_zero, List.set_cons_succ]
      refine till_at (i := 13) (d := some 68) (v := ?_) (by kernel_rfl) (by kernel_rfl) (by kernel_rfl) (by kernel_rfl) (by kernel_rfl) (fun _ _ _ h => h) (fun o ho => ?_) hS0 ?_
      rotate_left
      · simp only [List.getElem?_toArray, List.getElem?_cons_zero, List.getElem?_cons_succ, Option.some.injEq] at ho
        subst ho
        refine Or.inl ⟨by rfl, fun w' hSw => ?_⟩
        obtain ⟨hSw0, hSw1, hSw2⟩ := hSw
        go_simp
        try rw [HW1.out]
        try with_reducible rfl
      try simp only [Act.put, List.setIfInBounds_toArray, List.set_cons_zero, List.set_cons_succ]
      refine till_at (i := 14) (d := some 69) (v := ?_) (by kernel_rfl) (by kernel_rfl) (by kernel_rfl) (by kernel_rfl) (by kernel_rfl) (fun _ _ _ h => h) (fun o ho => ?_) hS0 ?_
      rotate_left
      · simp only [List.getElem?_toArray, List.getElem?_cons_zero, List.getElem?_cons_succ, Option.some.injEq] at ho
        subst ho
        refine Or.inl ⟨by rfl, fun w' hSw => ?_⟩
        obtain ⟨hSw0, hSw1, hSw2⟩ := hSw
        go_simp
        try with_reducible rfl
      try simp only [Act.put, List.setIfInBounds_toArray, List.set_cons_zero, List.set_cons_succ]
      refine till_step (i := 15) (by kernel_rfl) (by kernel_rfl) (fun o ho K' hK => ?_)
      simp only [List.getElem?_toArray, List.getElem?_cons_zero, List.getElem?_cons_succ, Option.some.injEq] at ho
      subst ho
      go_simp
      refine hK.out _ _ (fun h => absurd rfl h) (fun _ => ?_)
      clear hK K'
      try simp only [Act.put, List.setIfInBounds_toArray, List.set_cons_zero, List.set_cons_succ]
      refine till_done (by kernel_rfl) ?_ _
      refine NoPanic.normal ?_
      try simp only [Act.put, List.setIfInBounds_toArray, List.set_cons_zero, List.set_cons_succ]
      obtain ⟨WZ, hWZ⟩ : ∃ WZ, WZ = (wq.setCell ⟨g, k, none⟩ (.int .i64 (old - x))).drew := ⟨_, rfl⟩
      have HZ := Lib.hid (show WZ.ownsRow w.heap.size 3 1 (.slice (some ⟨g, 0, none⟩) wants.length cap) wants.length ((subL L (r.take (k + 1))).map (.int .i64)) ∧ Ext w WZ from by rw [hWZ]; exact ⟨HST5.out, HX5.out⟩)
      clear HST5 HX5 l0 lf f0 g0 g1 g2 m0 m1
      rw [← hWZ]
      clear hWZ
      go_wp2
      exact ⟨⟨k + 1, by omega, by go_num, HOV2.out, HZ.out.1, HZ.out.2⟩, by simp [intOf]; omega⟩
    ·have hke : k = r.length := by omega
     have z1 : ¬ k < wants.length := by omega
     rw [hke, List.take_length] at hov hown
     have hxs := over_small hov.out (by omega) (fun y hy => (HSO.out.2.2.2.1 y hy).2)
     have HROW : Hid (badRows wants.length ls (plan.take (i + 1)) = false) := by
      unfold Hid
      rw [HBT.out, HBAD.out.1, hov.out, decide_eq_false (by omega)]; rfl
     have HLB := Lib.hid (sub_bd HBAD.out.2 hxs)
     rw [← HLT.out] at hown HLB
     have HX9 := Lib.hid hx
     have HOWN9 := Lib.hid hown
     clear hke hov hown hx hxs hrl hsl
     go_wp2
     exact ⟨⟨i + 1, by omega, by go_num, ⟨HROW.out, fun y hy => by have := HLB.out y hy; push_cast; omega⟩, HOWN9.out, HX9.out⟩, by simp [intOf]; omega⟩
  ·have x1 : decide ((i : Int) < (plan.length : Int)) = false := by simpa using hlt
   have hie : plan.take i = plan := List.take_of_length_le (by omega)
   rw [hie] at hbad hown
   obtain ⟨L, hL⟩ : ∃ L, leftOf wants plan = L := ⟨_, rfl⟩
   have HLL := Lib.hid (show L.length = wants.length by rw [← hL]; exact left_len _ _)
   have HPU : Hid (isPurchaseB ls wants plan = L.all fun n => n == 0) := by
    unfold Hid isPurchaseB
    rw [hbad.out.1, decide_eq_true (by omega), hL]; rfl
   rw [hL] at hown
   have HOWN2 := Lib.hid hown
   have HX := Lib.hid hx
   clear hie hbad hown hx hL hlen
   go_wp2
   obtain ⟨wo, rfl⟩ : ∃ wo : World, wo = wr := ⟨_, rfl⟩
   go_loop [10] (fun j => ∃ k : Nat, k ≤ wants.length ∧ j = .int .i64 (k : Int) ∧ Hid ((L.take k).all (fun n => n == 0) = true)) (fun j => wants.length - (intOf j).toNat)
   case atStart => exact ⟨0, Nat.zero_le _, rfl, by simp [Hid]⟩
   case round =>
    obtain ⟨k, hk, rfl, hal⟩ := hrel
    by_cases hlt2 : k < wants.length
    ·obtain ⟨y, hy⟩ : ∃ y, L[k]? = some y := ⟨_, List.getElem?_eq_getElem (by have := HLL.out; omega)⟩
     have k1 : (0 : Int) ≤ (k : Int) := by omega
     have k2 : (k : Int) < (wants.length : Int) := by omega
     have z1 : decide ((k : Int) < (wants.length : Int)) = true := by simpa using hlt2
     have l0 : wo.cell? ⟨g, k, none⟩ = some (.int .i64 y) := by rw [HOWN2.out.cellAt k (by omega), List.getElem?_map, hy]; rfl
     by_cases hy0 : y = 0
     ·have t1 : (y != 0) = false := by simp [hy0]
      have HAL : Hid ((L.take (k + 1)).all (fun n => n == 0) = true) := by
       unfold Hid
       rw [List.take_add_one, hy, Option.toList_some, List.all_append, hal.out, hy0]; rfl
      clear hy hal hy0
      go_wp2
      go_round
      case rel => exact ⟨k + 1, by omega, by go_num, HAL.out⟩
      case measure => simp [intOf]; omega
     ·have t1 : (y != 0) = true := by simpa using hy0
      have HNO : Hid (isPurchaseB ls wants plan = false) := by
       unfold Hid
       rw [HPU.out, List.all_eq_false]
       exact ⟨y, List.mem_of_getElem? hy, by simpa using hy0⟩
      clear hy hal hy0
      go_wp2
      go_ret
      exact ⟨by rw [HNO.out] <;> rfl, HX.out⟩
    ·have z1 : decide ((k : Int) < (wants.length : Int)) = false := by simpa using hlt2
     have HYES : Hid (isPurchaseB ls wants plan = true) := by
      unfold Hid
      rw [HPU.out]
      have h := hal.out
      rwa [List.take_of_length_le (by have := HLL.out; omega)] at h
     clear hal
     go_wp2
     go_ret
     exact ⟨by rw [HYES.out] <;> rfl, HX.out⟩
end Go.Proofs.YtpebafaigldldaaGreatDoor
