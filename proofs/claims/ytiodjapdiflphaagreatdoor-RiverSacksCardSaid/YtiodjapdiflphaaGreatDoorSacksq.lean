/- SameSpans at equal lists. -/
import Derived.Test.YtiodjapdiflphaaGreatDoorLaw
import Derived.Test.YtiodjapdiflphaaGreatDoorReads
import Derived.Test.YtiodjapdiflphaaGreatDoorKnowq
import Derived.Test.YtiodjapdiflphaaGreatDoorRtruqq
import Derived.Test.YtiodjapdiflphaaGreatDoorManyq
namespace Go.Proofs.YtiodjapdiflphaaGreatDoor
open Go.RowKit
set_option maxRecDepth 100000 in
set_option maxHeartbeats 1000000 in
theorem sameS_yes (va vb : Value) (xs : List (Int × Int)) (w : World) (ha : PairsAt w va xs) (hb : PairsAt w vb xs) :
  Calls Tryz.prog 53 #[va, vb] w fun e w' => e = .returned (.bool true) ∧ Ext w w' := by
 obtain ⟨a, c, rfl, h1, h2, h3⟩ := ha.open
 obtain ⟨a', c', rfl, h1', h2', h3'⟩ := hb.open
 have hmix : Tryz.prog.follows .mixedOrders = true := by kernel_rfl
 have hsg := span_guard
 have hsn := span_neq
 have t1 : ((xs.length : Int) != (xs.length : Int)) = false := by simp
 have H3 := Lib.hid h3
 have H3' := Lib.hid h3'
 clear h3 h3' ha hb
 go_enter Tryz.func53, Tryz.ntmps53
 go_wp2
 go_loopw [5] (fun i wr => ∃ k : Nat, k ≤ xs.length ∧ i = .int .i64 k ∧ Ext w wr) (fun i _ => xs.length - (intOf i).toNat)
 case atStart => exact ⟨0, Nat.zero_le _, rfl, Ext.refl _⟩
 case round =>
  obtain ⟨k, hk, rfl, hx⟩ := hrel
  by_cases hlt : k < xs.length
  ·obtain ⟨b, o, x, rfl, hxk, hc, hd⟩ := H3.out k hlt
   obtain ⟨b', o', y, rfl, hyk, hc', hd'⟩ := H3'.out k hlt
   have hxy : y = x := by have := hyk.out; rw [hxk.out] at this; exact (Option.some.inj this).symm
   subst hxy
   have d0 := hx.cell hc
   have d1 := hx.cell hc'
   have d2 := hx.cell hd
   have d3 := hx.cell hd'
   have x2 : decide ((k : Int) < (xs.length : Int)) = true := by simpa using hlt
   obtain ⟨x1, x2'⟩ := y
   simp only at d0 d1 d2 d3
   clear hc hc' hd hd'
   go_wp2
   go_quiet (fail)
   go_wp2
   exact ⟨⟨k + 1, by omega, by go_num, hx.drewN _⟩, by simp [intOf]; omega⟩
  ·have x2 : decide ((k : Int) < (xs.length : Int)) = false := by simp; omega
   go_wp2
   go_ret
   exact ⟨rfl, hx⟩
end Go.Proofs.YtiodjapdiflphaaGreatDoor

/- SameWeather; what Of and Many say of what Truths answers. -/
namespace Go.Proofs.YtiodjapdiflphaaGreatDoor
open Go.RowKit
set_option maxRecDepth 100000 in
set_option maxHeartbeats 4000000 in
theorem sameW_yes (va vb : Value) (xss : List (List (Int × Int))) (w : World) (ha : SpansOff (fun _ => False) w va xss) (hb : SpansOff (fun _ => False) w vb xss) :
  Calls Tryz.prog 20 #[va, vb] w fun e w' => e = .returned (.bool true) ∧ Ext w w' := by
 obtain ⟨a, c, rfl, h1, h2, h3⟩ := ha.open
 obtain ⟨a', c', rfl, h1', h2', h3'⟩ := hb.open
 have t1 : ((xss.length : Int) != (xss.length : Int)) = false := by simp
 have H3 := Lib.hid h3
 have H3' := Lib.hid h3'
 clear h3 h3' ha hb
 go_enter Tryz.func20, Tryz.ntmps20
 go_wp2
 go_loopw [5] (fun i wr => ∃ k : Nat, k ≤ xss.length ∧ i = .int .i64 k ∧ Ext w wr) (fun i _ => xss.length - (intOf i).toNat)
 case atStart => exact ⟨0, Nat.zero_le _, rfl, Ext.refl _⟩
 case round =>
  obtain ⟨k, hk, rfl, hx⟩ := hrel
  have x1 : (0 : Int) ≤ (k : Int) := by omega
  by_cases hlt : k < xss.length
  ·obtain ⟨b, o, rv, xs, rfl, hxk, hc, hp⟩ := H3.out k hlt
   obtain ⟨b', o', rv', xs', rfl, hyk, hc', hp'⟩ := H3'.out k hlt
   have hxy : xs' = xs := by have := hyk.out; rw [hxk.out] at this; exact (Option.some.inj this).symm
   subst hxy
   have HF := Lib.hid (fun W (h : Ext wr W) => (⟨(hx.trans h).cell hc, (hx.trans h).cell hc'⟩ : W.cell? ⟨b, o + k, none⟩ = some rv ∧ W.cell? ⟨b', o' + k, none⟩ = some rv'))
   have HSS := Lib.hid (fun W (h : Ext wr W) => sameS_yes rv rv' xs' W (hp.ext (hx.trans h)) (hp'.ext (hx.trans h)))
   have x2 : decide ((k : Int) < (xss.length : Int)) = true := by simpa using hlt
   have x3 : (k : Int) < (xss.length : Int) := by omega
   clear hc hc' hp hp' hxk hyk
   go_upto_region 6 with fail
   refine region_reads (C := fun W => Ext wr W) (by kernel_rfl) (by kernel_rfl) ((Ext.refl wr).drew) ?_
   repeat (first | go_big_quiet_skip | (go_big_quiet_want; go_big_quiet_op; first | go_big_quiet_on | (refine ⟨_, fun W hW => rfl, ?_⟩; go_big_quiet_on)) | (go_big_quiet_want; refine ⟨?_, fun W hW => ?_, ?_⟩; rotate_left; (· (obtain ⟨p0, p1⟩ := HF.out W hW); go_simp; (first | with_reducible rfl | (go_at_call 53; refine (HSS.out W hW).mono ?_; rintro e w' ⟨rfl, hx1⟩; constructor; with_reducible rfl; exact hW.trans hx1))); (try simp only [Act.put, yA, yB, yC]); go_big_quiet_on))
   refine wpQuiet_nil ?_
   intro wq hq
   go_wp2
   exact ⟨⟨k + 1, by omega, by go_num, hx.trans hq⟩, by simp [intOf]; omega⟩
  ·have x2 : decide ((k : Int) < (xss.length : Int)) = false := by simp; omega
   go_wp2
   go_ret
   exact ⟨rfl, hx⟩
set_option maxRecDepth 100000 in
theorem of_truths {bv : Value} {b : Book} {s : Sack} {W : World} {og oc wg wc pg i : Nat} (any : Bool) (hb : BookAt W bv b) (hB : BookB b) (hS : SackB s) (hT : TruthsAt b s W og wg wc pg) (hi : i < s.shells.length) :
  Calls Tryz.prog 19 #[.agg #[.bool any, .slice (some ⟨og, 0, none⟩) s.shells.length oc, .slice (some ⟨wg, 0, none⟩) b.rivers.length wc, .slice (some ⟨pg, 0, none⟩) (2 ^ s.shells.length) (2 ^ s.shells.length)], bv, .int .i64 (i : Int)] W fun e w' => ∃ a c, e = .returned (.slice a (couldOf b s i).length c) ∧ PairsAt w' (.slice a (couldOf b s i).length c) (couldOf b s i) ∧ Ext W w' := by
 obtain ⟨gv, hc, hr⟩ := hT.own i hi
 have hl : (ownRow b s (truthsOf b s).length i).length = b.rivers.length * b.years.toNat := by unfold ownRow; rw [List.length_map, List.length_range]
 have y2 := hB.y2
 have r3 := hB.n2
 have hl2 : (ownRow b s (truthsOf b s).length i).length ≤ 1000 := by
  rw [hl]
  have h1 : b.rivers.length ≤ 3 := by omega
  have h2 : b.years.toNat ≤ 6 := by omega
  exact Nat.le_trans (Nat.mul_le_mul h1 h2) (by decide)
 have hc' : W.cell? ⟨og, 0 + i, none⟩ = some gv := by rw [Nat.zero_add]; exact hc
 have hr' : RowAt W gv (ownRow b s (truthsOf b s).length i).length ((ownRow b s (truthsOf b s).length i).map .bool) := by rw [hl]; exact hr
 generalize hN : ownRow b s (truthsOf b s).length i = row at *
 generalize hP : 2 ^ s.shells.length = P at *
 have h := rof_any og 0 oc s.shells.length P P b.rivers.length wc i (some ⟨pg, 0, none⟩) (some ⟨wg, 0, none⟩) bv gv any b row W hb hB hi hc' hr' hl2
 refine h.mono fun e w' q => ?_
 obtain ⟨u, rfl, hp, hx⟩ := q
 rw [hl, ← hN, of_end hB hS hi] at hp
 obtain ⟨a, c, rfl, _⟩ := hp.open
 exact ⟨a, c, rfl, hp, hx⟩
set_option maxRecDepth 100000 in
theorem many_truths {b : Book} {s : Sack} {W : World} {og oc wg wc pg : Nat} (any : Bool) (hB : BookB b) (hS : SackB s) (hT : TruthsAt b s W og wg wc pg) :
  Calls Tryz.prog 21 #[.agg #[.bool any, .slice (some ⟨og, 0, none⟩) s.shells.length oc, .slice (some ⟨wg, 0, none⟩) b.rivers.length wc, .slice (some ⟨pg, 0, none⟩) (2 ^ s.shells.length) (2 ^ s.shells.length)]] W fun e w' => e = .returned (.agg #[.int .i64 (closedOf b s).1, .int .i64 (closedOf b s).2]) ∧ Ext W w' := by
 have h := rmany_any (some ⟨og, 0, none⟩) (some ⟨wg, 0, none⟩) oc b.rivers.length wc (.slice (some ⟨pg, 0, none⟩) (2 ^ s.shells.length) (2 ^ s.shells.length)) any (patternsOf b s) s.shells.length (2 ^ s.shells.length) W hT.pat
  (Nat.le_trans (Nat.pow_le_pow_right (by decide) (by have := hS.n2; omega : s.shells.length ≤ 4)) (by decide))
 rw [many_end hB hS] at h
 exact h
end Go.Proofs.YtiodjapdiflphaaGreatDoor

/- The law RiverSacks. -/
namespace Go.Proofs.YtiodjapdiflphaaGreatDoor
open Go.RowKit
set_option maxRecDepth 100000 in
set_option maxHeartbeats 16000000 in
theorem riverSacks_any (bv : Value) (b : Book) (sv : Value) (s : Sack) (n : Int) (w : World) (hb : BookAt w bv b) (hs : SackAt w sv s) (ht : TabOk w) :
  Calls Tryz.prog 4 #[bv, sv, .int .i64 n] w (TrueP w) := by
 have HB := Lib.hid (LawB.of hb ht)
 have HBW := Lib.hid (fun w1 (h : Ext w w1) => hb.ext h)
 have HSW0 := Lib.hid (fun w1 (h : Ext w w1) => hs.ext h)
 have HBR := Lib.hid (fun w1 (h : Ext w w1) => brief_any sv s w1 (hs.ext h))
 have HSA := Lib.hid (fun w1 (h : Ext w w1) => rsack_any sv s w1 (hs.ext h))
 have HNU := Lib.hid (fun w1 (h : Ext w w1) => rnumber_any sv s n w1 (hs.ext h))
 have HTR := Lib.hid (fun hB hS w1 (h : Ext w w1) => rtruths_any bv sv b s w1 (hb.ext h) hB (hs.ext h) hS)
 have hsg := span_guard
 have hse := span_eql
 obtain ⟨ra, rc, rfl, _⟩ := hb.slice
 obtain ⟨sa, sc, ta, tc, rfl, _⟩ := hs.slice
 obtain ⟨W0, hW0⟩ : ∃ W0, W0 = (w.alloc (.cells #[.int .i64 b.years, .slice ra b.rivers.length rc] 24)).alloc (.cells #[.slice sa s.shells.length sc, .slice ta s.tests.length tc] 28) := ⟨_, rfl⟩
 have HX0 := Lib.hid (show Ext w W0 by rw [hW0]; exact ((Ext.refl w).alloc _).alloc _)
 have HS := Lib.hid (fun W (h : Ext W0 W) => (⟨h.cell (by rw [hW0]; go_simp), h.cell (by rw [hW0]; go_simp), h.cell (by rw [hW0]; go_simp), h.cell (by rw [hW0]; go_simp)⟩ :
  W.cell? ⟨w.heap.size, 0, none⟩ = some (.int .i64 b.years) ∧ W.cell? ⟨w.heap.size, 1, none⟩ = some (.slice ra b.rivers.length rc) ∧ W.cell? ⟨w.heap.size + 1, 0, none⟩ = some (.slice sa s.shells.length sc) ∧ W.cell? ⟨w.heap.size + 1, 1, none⟩ = some (.slice ta s.tests.length tc)))
 clear hb ht hs
 go_enter Tryz.func4, Tryz.ntmps4
 go_upto_region 1 with fail
 rw [← hW0]
 clear hW0
 have hq := Ext.refl W0
 obtain ⟨z0, z1, z2, z3⟩ := HS.out _ hq
 have HB1 := Lib.hid (fun w1 (h : Ext w w1) => HB.out.slim w1 h)
 have HB2 := Lib.hid (fun w1 (h : Ext w w1) => HB.out.book w1 h)
 cases h1 : slimB b with
 | false =>
  rw [h1] at HB1
  clear h1
  go_wp2_with (first | (go_at_call 5; refine (HB1.out _ (HX0.out.trans hq)).mono ?_; rintro e w' ⟨rfl, hx1⟩; (try (replace hO := hO.trans hx1)); (try (replace hV := hV.trans hx1)); (try (replace hB := hB.trans hx1)); (try (replace hA := hA.trans hx1)); replace hq := hq.trans hx1; clear hx1 z0 z1 z2 z3; obtain ⟨z0, z1, z2, z3⟩ := HS.out _ hq) | (go_at_call 7; refine (HB.out.known _ (HX0.out.trans hq)).mono ?_; rintro e w' ⟨rfl, hx1⟩; (try (replace hO := hO.trans hx1)); (try (replace hV := hV.trans hx1)); (try (replace hB := hB.trans hx1)); (try (replace hA := hA.trans hx1)); replace hq := hq.trans hx1; clear hx1 z0 z1 z2 z3; obtain ⟨z0, z1, z2, z3⟩ := HS.out _ hq))
  go_ret
  exact ⟨rfl, HX0.out.trans hq⟩
 | true =>
  rw [h1] at HB1
  cases h2 : briefB s with
  | false =>
   rw [h2] at HBR
   clear h1 h2
   go_wp2_with (first | (go_at_call 5; refine (HB1.out _ (HX0.out.trans hq)).mono ?_; rintro e w' ⟨rfl, hx1⟩; (try (replace hO := hO.trans hx1)); (try (replace hV := hV.trans hx1)); (try (replace hB := hB.trans hx1)); (try (replace hA := hA.trans hx1)); replace hq := hq.trans hx1; clear hx1 z0 z1 z2 z3; obtain ⟨z0, z1, z2, z3⟩ := HS.out _ hq) | (go_at_call 6; refine (HBR.out _ (HX0.out.trans hq)).mono ?_; rintro e w' ⟨rfl, hx1⟩; (try (replace hO := hO.trans hx1)); (try (replace hV := hV.trans hx1)); (try (replace hB := hB.trans hx1)); (try (replace hA := hA.trans hx1)); replace hq := hq.trans hx1; clear hx1 z0 z1 z2 z3; obtain ⟨z0, z1, z2, z3⟩ := HS.out _ hq) | (go_at_call 7; refine (HB.out.known _ (HX0.out.trans hq)).mono ?_; rintro e w' ⟨rfl, hx1⟩; (try (replace hO := hO.trans hx1)); (try (replace hV := hV.trans hx1)); (try (replace hB := hB.trans hx1)); (try (replace hA := hA.trans hx1)); replace hq := hq.trans hx1; clear hx1 z0 z1 z2 z3; obtain ⟨z0, z1, z2, z3⟩ := HS.out _ hq))
   go_ret
   exact ⟨rfl, HX0.out.trans hq⟩
  | true =>
   rw [h2] at HBR
   clear h1 h2
   cases h3 : isBookB b with
   | false =>
    rw [h3] at HB2
    have HPO := Lib.hid (fun w1 (h : Ext w w1) => Possible_bad (HBW.out w1 h) (HSW0.out w1 h) (by rw [h3]; simp))
    have HOR := Lib.hid (fun w1 (h : Ext w w1) => Origins_bad (i := n) 2 (HBW.out w1 h) (HSW0.out w1 h) (ask_arg (by rw [h3]; simp)) (by decide))
    have HWE := Lib.hid (fun w1 (h : Ext w w1) => Weather_bad 2 (HBW.out w1 h) (HSW0.out w1 h) (ask_arg (by rw [h3]; simp)) (by decide))
    have HCL := Lib.hid (fun w1 (h : Ext w w1) => Closed_bad 2 (HBW.out w1 h) (HSW0.out w1 h) (ask_arg (by rw [h3]; simp)) (by decide))
    clear h3
    go_upto_region 7 with (first | (go_at_call 5; refine (HB1.out _ (HX0.out.trans hq)).mono ?_; rintro e w' ⟨rfl, hx1⟩; (try (replace hO := hO.trans hx1)); (try (replace hV := hV.trans hx1)); (try (replace hB := hB.trans hx1)); (try (replace hA := hA.trans hx1)); replace hq := hq.trans hx1; clear hx1 z0 z1 z2 z3; obtain ⟨z0, z1, z2, z3⟩ := HS.out _ hq) | (go_at_call 6; refine (HBR.out _ (HX0.out.trans hq)).mono ?_; rintro e w' ⟨rfl, hx1⟩; (try (replace hO := hO.trans hx1)); (try (replace hV := hV.trans hx1)); (try (replace hB := hB.trans hx1)); (try (replace hA := hA.trans hx1)); replace hq := hq.trans hx1; clear hx1 z0 z1 z2 z3; obtain ⟨z0, z1, z2, z3⟩ := HS.out _ hq) | (go_at_call 13; refine (HPO.out _ (HX0.out.trans hq)).mono ?_; rintro e w' ⟨rfl, hx1⟩; (try (replace hO := hO.trans hx1)); (try (replace hV := hV.trans hx1)); (try (replace hB := hB.trans hx1)); (try (replace hA := hA.trans hx1)); replace hq := hq.trans hx1; clear hx1 z0 z1 z2 z3; obtain ⟨z0, z1, z2, z3⟩ := HS.out _ hq) | (go_at_call 14; refine (HOR.out _ (HX0.out.trans hq)).mono ?_; rintro e w' ⟨oa, oc, rfl, hx1, ho1⟩; (try (replace hO := hO.trans hx1)); (try (replace hV := hV.trans hx1)); (try (replace hB := hB.trans hx1)); (try (replace hA := hA.trans hx1)); replace hq := hq.trans hx1; have HO2 := Lib.hid (fun W (h : Ext w' W) => PairsAt.ext ho1 h); have hO := Ext.refl w'; clear ho1; clear hx1 z0 z1 z2 z3; obtain ⟨z0, z1, z2, z3⟩ := HS.out _ hq) | (go_at_call 15; refine (HWE.out _ (HX0.out.trans hq)).mono ?_; rintro e w' ⟨va, vc, rfl, hx1, hv1⟩; (try (replace hO := hO.trans hx1)); (try (replace hV := hV.trans hx1)); (try (replace hB := hB.trans hx1)); (try (replace hA := hA.trans hx1)); replace hq := hq.trans hx1; have HV2 := Lib.hid (fun W (h : Ext w' W) => SpansOff.ext hv1 h); have hV := Ext.refl w'; clear hv1; clear hx1 z0 z1 z2 z3; obtain ⟨z0, z1, z2, z3⟩ := HS.out _ hq) | (go_at_call 16; refine (HCL.out _ (HX0.out.trans hq)).mono ?_; rintro e w' ⟨rfl, hx1⟩; (try (replace hO := hO.trans hx1)); (try (replace hV := hV.trans hx1)); (try (replace hB := hB.trans hx1)); (try (replace hA := hA.trans hx1)); replace hq := hq.trans hx1; clear hx1 z0 z1 z2 z3; obtain ⟨z0, z1, z2, z3⟩ := HS.out _ hq))
    obtain ⟨WB, hWB⟩ : ∃ WB, WB = w'.alloc (.cells #[.int .i64 0, .int .i64 0] 52) := ⟨_, rfl⟩
    have hxb : Ext w' WB := by rw [hWB]; exact (Ext.refl w').alloc _
    have e0 : WB.cell? ⟨w'.heap.size, 0, none⟩ = some (.int .i64 0) := by rw [hWB]; go_simp
    have e1 : WB.cell? ⟨w'.heap.size, 1, none⟩ = some (.int .i64 0) := by rw [hWB]; go_simp
    rw [← hWB]
    clear hWB z0 z1 z2 z3
    replace hq := hq.trans hxb
    replace hO := hO.trans hxb
    replace hV := hV.trans hxb
    clear hxb
    generalize w'.heap.size = wb at *
    have HQB := Lib.hid hq
    have HS2 := Lib.hid (fun W (h : Ext WB W) => (⟨(HS.out W (HQB.out.trans h)).1, (HS.out W (HQB.out.trans h)).2.1, (HS.out W (HQB.out.trans h)).2.2.1, (HS.out W (HQB.out.trans h)).2.2.2, h.cell e0, h.cell e1⟩ : W.cell? ⟨w.heap.size, 0, none⟩ = some (.int .i64 b.years) ∧ W.cell? ⟨w.heap.size, 1, none⟩ = some (.slice ra b.rivers.length rc) ∧ W.cell? ⟨w.heap.size + 1, 0, none⟩ = some (.slice sa s.shells.length sc) ∧ W.cell? ⟨w.heap.size + 1, 1, none⟩ = some (.slice ta s.tests.length tc) ∧ W.cell? ⟨wb, 0, none⟩ = some (.int .i64 0) ∧ W.cell? ⟨wb, 1, none⟩ = some (.int .i64 0)))
    clear e0 e1
    have hB := Ext.refl WB
    obtain ⟨z0, z1, z2, z3, d0, d1⟩ := HS2.out _ hB
    go_wp2_with (first | (go_at_call 9; refine (HB2.out _ (HX0.out.trans hq)).mono ?_; rintro e w' ⟨rfl, hx1⟩; (try (replace hO := hO.trans hx1)); (try (replace hV := hV.trans hx1)); (try (replace hB := hB.trans hx1)); (try (replace hA := hA.trans hx1)); replace hq := hq.trans hx1; clear hx1 z0 z1 z2 z3 d0 d1; obtain ⟨z0, z1, z2, z3, d0, d1⟩ := HS2.out _ hB) | (go_at_call 7; refine (HB.out.known _ (HX0.out.trans hq)).mono ?_; rintro e w' ⟨rfl, hx1⟩; (try (replace hO := hO.trans hx1)); (try (replace hV := hV.trans hx1)); (try (replace hB := hB.trans hx1)); (try (replace hA := hA.trans hx1)); replace hq := hq.trans hx1; clear hx1 z0 z1 z2 z3 d0 d1; obtain ⟨z0, z1, z2, z3, d0, d1⟩ := HS2.out _ hB))
    go_ret
    exact ⟨rfl, HX0.out.trans hq⟩
   | true =>
    rw [h3] at HB2
    cases h4 : isSackB s with
    | false =>
     rw [h4] at HSA
     have HPO := Lib.hid (fun w1 (h : Ext w w1) => Possible_bad (HBW.out w1 h) (HSW0.out w1 h) (by rw [h4]; simp))
     have HOR := Lib.hid (fun w1 (h : Ext w w1) => Origins_bad (i := n) 2 (HBW.out w1 h) (HSW0.out w1 h) (ask_arg (by rw [h4]; simp)) (by decide))
     have HWE := Lib.hid (fun w1 (h : Ext w w1) => Weather_bad 2 (HBW.out w1 h) (HSW0.out w1 h) (ask_arg (by rw [h4]; simp)) (by decide))
     have HCL := Lib.hid (fun w1 (h : Ext w w1) => Closed_bad 2 (HBW.out w1 h) (HSW0.out w1 h) (ask_arg (by rw [h4]; simp)) (by decide))
     clear h3 h4
     go_upto_region 7 with (first | (go_at_call 5; refine (HB1.out _ (HX0.out.trans hq)).mono ?_; rintro e w' ⟨rfl, hx1⟩; (try (replace hO := hO.trans hx1)); (try (replace hV := hV.trans hx1)); (try (replace hB := hB.trans hx1)); (try (replace hA := hA.trans hx1)); replace hq := hq.trans hx1; clear hx1 z0 z1 z2 z3; obtain ⟨z0, z1, z2, z3⟩ := HS.out _ hq) | (go_at_call 6; refine (HBR.out _ (HX0.out.trans hq)).mono ?_; rintro e w' ⟨rfl, hx1⟩; (try (replace hO := hO.trans hx1)); (try (replace hV := hV.trans hx1)); (try (replace hB := hB.trans hx1)); (try (replace hA := hA.trans hx1)); replace hq := hq.trans hx1; clear hx1 z0 z1 z2 z3; obtain ⟨z0, z1, z2, z3⟩ := HS.out _ hq) | (go_at_call 13; refine (HPO.out _ (HX0.out.trans hq)).mono ?_; rintro e w' ⟨rfl, hx1⟩; (try (replace hO := hO.trans hx1)); (try (replace hV := hV.trans hx1)); (try (replace hB := hB.trans hx1)); (try (replace hA := hA.trans hx1)); replace hq := hq.trans hx1; clear hx1 z0 z1 z2 z3; obtain ⟨z0, z1, z2, z3⟩ := HS.out _ hq) | (go_at_call 14; refine (HOR.out _ (HX0.out.trans hq)).mono ?_; rintro e w' ⟨oa, oc, rfl, hx1, ho1⟩; (try (replace hO := hO.trans hx1)); (try (replace hV := hV.trans hx1)); (try (replace hB := hB.trans hx1)); (try (replace hA := hA.trans hx1)); replace hq := hq.trans hx1; have HO2 := Lib.hid (fun W (h : Ext w' W) => PairsAt.ext ho1 h); have hO := Ext.refl w'; clear ho1; clear hx1 z0 z1 z2 z3; obtain ⟨z0, z1, z2, z3⟩ := HS.out _ hq) | (go_at_call 15; refine (HWE.out _ (HX0.out.trans hq)).mono ?_; rintro e w' ⟨va, vc, rfl, hx1, hv1⟩; (try (replace hO := hO.trans hx1)); (try (replace hV := hV.trans hx1)); (try (replace hB := hB.trans hx1)); (try (replace hA := hA.trans hx1)); replace hq := hq.trans hx1; have HV2 := Lib.hid (fun W (h : Ext w' W) => SpansOff.ext hv1 h); have hV := Ext.refl w'; clear hv1; clear hx1 z0 z1 z2 z3; obtain ⟨z0, z1, z2, z3⟩ := HS.out _ hq) | (go_at_call 16; refine (HCL.out _ (HX0.out.trans hq)).mono ?_; rintro e w' ⟨rfl, hx1⟩; (try (replace hO := hO.trans hx1)); (try (replace hV := hV.trans hx1)); (try (replace hB := hB.trans hx1)); (try (replace hA := hA.trans hx1)); replace hq := hq.trans hx1; clear hx1 z0 z1 z2 z3; obtain ⟨z0, z1, z2, z3⟩ := HS.out _ hq))
     obtain ⟨WB, hWB⟩ : ∃ WB, WB = w'.alloc (.cells #[.int .i64 0, .int .i64 0] 52) := ⟨_, rfl⟩
     have hxb : Ext w' WB := by rw [hWB]; exact (Ext.refl w').alloc _
     have e0 : WB.cell? ⟨w'.heap.size, 0, none⟩ = some (.int .i64 0) := by rw [hWB]; go_simp
     have e1 : WB.cell? ⟨w'.heap.size, 1, none⟩ = some (.int .i64 0) := by rw [hWB]; go_simp
     rw [← hWB]
     clear hWB z0 z1 z2 z3
     replace hq := hq.trans hxb
     replace hO := hO.trans hxb
     replace hV := hV.trans hxb
     clear hxb
     generalize w'.heap.size = wb at *
     have HQB := Lib.hid hq
     have HS2 := Lib.hid (fun W (h : Ext WB W) => (⟨(HS.out W (HQB.out.trans h)).1, (HS.out W (HQB.out.trans h)).2.1, (HS.out W (HQB.out.trans h)).2.2.1, (HS.out W (HQB.out.trans h)).2.2.2, h.cell e0, h.cell e1⟩ : W.cell? ⟨w.heap.size, 0, none⟩ = some (.int .i64 b.years) ∧ W.cell? ⟨w.heap.size, 1, none⟩ = some (.slice ra b.rivers.length rc) ∧ W.cell? ⟨w.heap.size + 1, 0, none⟩ = some (.slice sa s.shells.length sc) ∧ W.cell? ⟨w.heap.size + 1, 1, none⟩ = some (.slice ta s.tests.length tc) ∧ W.cell? ⟨wb, 0, none⟩ = some (.int .i64 0) ∧ W.cell? ⟨wb, 1, none⟩ = some (.int .i64 0)))
     clear e0 e1
     have hB := Ext.refl WB
     obtain ⟨z0, z1, z2, z3, d0, d1⟩ := HS2.out _ hB
     go_wp2_with (first | (go_at_call 9; refine (HB2.out _ (HX0.out.trans hq)).mono ?_; rintro e w' ⟨rfl, hx1⟩; (try (replace hO := hO.trans hx1)); (try (replace hV := hV.trans hx1)); (try (replace hB := hB.trans hx1)); (try (replace hA := hA.trans hx1)); replace hq := hq.trans hx1; clear hx1 z0 z1 z2 z3 d0 d1; obtain ⟨z0, z1, z2, z3, d0, d1⟩ := HS2.out _ hB) | (go_at_call 10; refine (HSA.out _ (HX0.out.trans hq)).mono ?_; rintro e w' ⟨rfl, hx1⟩; (try (replace hO := hO.trans hx1)); (try (replace hV := hV.trans hx1)); (try (replace hB := hB.trans hx1)); (try (replace hA := hA.trans hx1)); replace hq := hq.trans hx1; clear hx1 z0 z1 z2 z3 d0 d1; obtain ⟨z0, z1, z2, z3, d0, d1⟩ := HS2.out _ hB) | (go_at_call 7; refine (HB.out.known _ (HX0.out.trans hq)).mono ?_; rintro e w' ⟨rfl, hx1⟩; (try (replace hO := hO.trans hx1)); (try (replace hV := hV.trans hx1)); (try (replace hB := hB.trans hx1)); (try (replace hA := hA.trans hx1)); replace hq := hq.trans hx1; clear hx1 z0 z1 z2 z3 d0 d1; obtain ⟨z0, z1, z2, z3, d0, d1⟩ := HS2.out _ hB))
     go_ret
     exact ⟨rfl, HX0.out.trans hq⟩
    | true =>
     rw [h4] at HSA
     have hBB := bookB_of h3
     have hSS := sackB_of h4
     have HTU := Lib.hid (fun w1 (h : Ext w w1) => HTR.out hBB hSS w1 h)
     have HBB' := Lib.hid hBB
     have HSB' := Lib.hid hSS
     clear hBB hSS HTR
     cases h5 : possB b s with
     | false =>
      rw [h5] at HTU
      cases h6 : numberB s n with
      | false =>
       rw [h6] at HNU
       have HPO := Lib.hid (fun w1 (h : Ext w w1) => h5 ▸ Possible_ok (HBW.out w1 h) (HSW0.out w1 h) h3 h4)
       have HOR := Lib.hid (fun w1 (h : Ext w w1) => Origins_bad (i := n) 2 (HBW.out w1 h) (HSW0.out w1 h) (ask_arg (by rw [h3, h4]; unfold numberB at h6; rw [h6]; rfl)) (by decide))
       have HWE := Lib.hid (fun w1 (h : Ext w w1) => Weather_bad 7 (HBW.out w1 h) (HSW0.out w1 h) (ask_rule h3 h4 rfl h5) (by decide))
       have HCL := Lib.hid (fun w1 (h : Ext w w1) => Closed_bad 7 (HBW.out w1 h) (HSW0.out w1 h) (ask_rule h3 h4 rfl h5) (by decide))
       clear h3 h4 h5 h6
       go_upto_region 7 with (first | (go_at_call 5; refine (HB1.out _ (HX0.out.trans hq)).mono ?_; rintro e w' ⟨rfl, hx1⟩; (try (replace hO := hO.trans hx1)); (try (replace hV := hV.trans hx1)); (try (replace hB := hB.trans hx1)); (try (replace hA := hA.trans hx1)); replace hq := hq.trans hx1; clear hx1 z0 z1 z2 z3; obtain ⟨z0, z1, z2, z3⟩ := HS.out _ hq) | (go_at_call 6; refine (HBR.out _ (HX0.out.trans hq)).mono ?_; rintro e w' ⟨rfl, hx1⟩; (try (replace hO := hO.trans hx1)); (try (replace hV := hV.trans hx1)); (try (replace hB := hB.trans hx1)); (try (replace hA := hA.trans hx1)); replace hq := hq.trans hx1; clear hx1 z0 z1 z2 z3; obtain ⟨z0, z1, z2, z3⟩ := HS.out _ hq) | (go_at_call 13; refine (HPO.out _ (HX0.out.trans hq)).mono ?_; rintro e w' ⟨rfl, hx1⟩; (try (replace hO := hO.trans hx1)); (try (replace hV := hV.trans hx1)); (try (replace hB := hB.trans hx1)); (try (replace hA := hA.trans hx1)); replace hq := hq.trans hx1; clear hx1 z0 z1 z2 z3; obtain ⟨z0, z1, z2, z3⟩ := HS.out _ hq) | (go_at_call 14; refine (HOR.out _ (HX0.out.trans hq)).mono ?_; rintro e w' ⟨oa, oc, rfl, hx1, ho1⟩; (try (replace hO := hO.trans hx1)); (try (replace hV := hV.trans hx1)); (try (replace hB := hB.trans hx1)); (try (replace hA := hA.trans hx1)); replace hq := hq.trans hx1; have HO2 := Lib.hid (fun W (h : Ext w' W) => PairsAt.ext ho1 h); have hO := Ext.refl w'; clear ho1; clear hx1 z0 z1 z2 z3; obtain ⟨z0, z1, z2, z3⟩ := HS.out _ hq) | (go_at_call 15; refine (HWE.out _ (HX0.out.trans hq)).mono ?_; rintro e w' ⟨va, vc, rfl, hx1, hv1⟩; (try (replace hO := hO.trans hx1)); (try (replace hV := hV.trans hx1)); (try (replace hB := hB.trans hx1)); (try (replace hA := hA.trans hx1)); replace hq := hq.trans hx1; have HV2 := Lib.hid (fun W (h : Ext w' W) => SpansOff.ext hv1 h); have hV := Ext.refl w'; clear hv1; clear hx1 z0 z1 z2 z3; obtain ⟨z0, z1, z2, z3⟩ := HS.out _ hq) | (go_at_call 16; refine (HCL.out _ (HX0.out.trans hq)).mono ?_; rintro e w' ⟨rfl, hx1⟩; (try (replace hO := hO.trans hx1)); (try (replace hV := hV.trans hx1)); (try (replace hB := hB.trans hx1)); (try (replace hA := hA.trans hx1)); replace hq := hq.trans hx1; clear hx1 z0 z1 z2 z3; obtain ⟨z0, z1, z2, z3⟩ := HS.out _ hq))
       obtain ⟨WB, hWB⟩ : ∃ WB, WB = w'.alloc (.cells #[.int .i64 0, .int .i64 0] 52) := ⟨_, rfl⟩
       have hxb : Ext w' WB := by rw [hWB]; exact (Ext.refl w').alloc _
       have e0 : WB.cell? ⟨w'.heap.size, 0, none⟩ = some (.int .i64 0) := by rw [hWB]; go_simp
       have e1 : WB.cell? ⟨w'.heap.size, 1, none⟩ = some (.int .i64 0) := by rw [hWB]; go_simp
       rw [← hWB]
       clear hWB z0 z1 z2 z3
       replace hq := hq.trans hxb
       replace hO := hO.trans hxb
       replace hV := hV.trans hxb
       clear hxb
       generalize w'.heap.size = wb at *
       have HQB := Lib.hid hq
       have HS2 := Lib.hid (fun W (h : Ext WB W) => (⟨(HS.out W (HQB.out.trans h)).1, (HS.out W (HQB.out.trans h)).2.1, (HS.out W (HQB.out.trans h)).2.2.1, (HS.out W (HQB.out.trans h)).2.2.2, h.cell e0, h.cell e1⟩ : W.cell? ⟨w.heap.size, 0, none⟩ = some (.int .i64 b.years) ∧ W.cell? ⟨w.heap.size, 1, none⟩ = some (.slice ra b.rivers.length rc) ∧ W.cell? ⟨w.heap.size + 1, 0, none⟩ = some (.slice sa s.shells.length sc) ∧ W.cell? ⟨w.heap.size + 1, 1, none⟩ = some (.slice ta s.tests.length tc) ∧ W.cell? ⟨wb, 0, none⟩ = some (.int .i64 0) ∧ W.cell? ⟨wb, 1, none⟩ = some (.int .i64 0)))
       clear e0 e1
       have hB := Ext.refl WB
       obtain ⟨z0, z1, z2, z3, d0, d1⟩ := HS2.out _ hB
       go_upto_region 9 with (first | (go_at_call 9; refine (HB2.out _ (HX0.out.trans hq)).mono ?_; rintro e w' ⟨rfl, hx1⟩; (try (replace hO := hO.trans hx1)); (try (replace hV := hV.trans hx1)); (try (replace hB := hB.trans hx1)); (try (replace hA := hA.trans hx1)); replace hq := hq.trans hx1; clear hx1 z0 z1 z2 z3 d0 d1; obtain ⟨z0, z1, z2, z3, d0, d1⟩ := HS2.out _ hB) | (go_at_call 10; refine (HSA.out _ (HX0.out.trans hq)).mono ?_; rintro e w' ⟨rfl, hx1⟩; (try (replace hO := hO.trans hx1)); (try (replace hV := hV.trans hx1)); (try (replace hB := hB.trans hx1)); (try (replace hA := hA.trans hx1)); replace hq := hq.trans hx1; clear hx1 z0 z1 z2 z3 d0 d1; obtain ⟨z0, z1, z2, z3, d0, d1⟩ := HS2.out _ hB))
       go_upto_region 10 with (go_at_call 11; refine (HTU.out _ (HX0.out.trans hq)).mono ?_; rintro e w4 ⟨og, oc', wg, wc, pg, rfl, hta, hx4⟩)
       obtain ⟨WA, hWA⟩ : ∃ WA, WA = w4.alloc (.cells #[.bool false, .slice (some ⟨og, 0, none⟩) s.shells.length oc', .slice (some ⟨wg, 0, none⟩) b.rivers.length wc, .slice (some ⟨pg, 0, none⟩) (2 ^ s.shells.length) (2 ^ s.shells.length)] 39) := ⟨_, rfl⟩
       have hxa : Ext w4 WA := by rw [hWA]; exact (Ext.refl w4).alloc _
       have e0 : WA.cell? ⟨w4.heap.size, 0, none⟩ = some (.bool false) := by rw [hWA]; go_simp
       have e1 : WA.cell? ⟨w4.heap.size, 1, none⟩ = some (.slice (some ⟨og, 0, none⟩) s.shells.length oc') := by rw [hWA]; go_simp
       have e2 : WA.cell? ⟨w4.heap.size, 2, none⟩ = some (.slice (some ⟨wg, 0, none⟩) b.rivers.length wc) := by rw [hWA]; go_simp
       have e3 : WA.cell? ⟨w4.heap.size, 3, none⟩ = some (.slice (some ⟨pg, 0, none⟩) (2 ^ s.shells.length) (2 ^ s.shells.length)) := by rw [hWA]; go_simp
       rw [← hWA]
       clear hWA z0 z1 z2 z3 d0 d1
       have HTA := Lib.hid (fun W (h : Ext WA W) => (hta.ext hxa).ext h)
       replace hxa := hx4.trans hxa
       replace hq := hq.trans hxa
       replace hO := hO.trans hxa
       replace hV := hV.trans hxa
       replace hB := hB.trans hxa
       clear hxa hta hx4
       generalize w4.heap.size = ta' at *
       have HBB := Lib.hid hB
       have HS3 := Lib.hid (fun W (h : Ext WA W) => (⟨(HS2.out W (HBB.out.trans h)).1, (HS2.out W (HBB.out.trans h)).2.1, (HS2.out W (HBB.out.trans h)).2.2.1, (HS2.out W (HBB.out.trans h)).2.2.2.1, (HS2.out W (HBB.out.trans h)).2.2.2.2.1, (HS2.out W (HBB.out.trans h)).2.2.2.2.2, h.cell e0, h.cell e1, h.cell e2, h.cell e3⟩ : W.cell? ⟨w.heap.size, 0, none⟩ = some (.int .i64 b.years) ∧ W.cell? ⟨w.heap.size, 1, none⟩ = some (.slice ra b.rivers.length rc) ∧ W.cell? ⟨w.heap.size + 1, 0, none⟩ = some (.slice sa s.shells.length sc) ∧ W.cell? ⟨w.heap.size + 1, 1, none⟩ = some (.slice ta s.tests.length tc) ∧ W.cell? ⟨wb, 0, none⟩ = some (.int .i64 0) ∧ W.cell? ⟨wb, 1, none⟩ = some (.int .i64 0) ∧ W.cell? ⟨ta', 0, none⟩ = some (.bool false) ∧ W.cell? ⟨ta', 1, none⟩ = some (.slice (some ⟨og, 0, none⟩) s.shells.length oc') ∧ W.cell? ⟨ta', 2, none⟩ = some (.slice (some ⟨wg, 0, none⟩) b.rivers.length wc) ∧ W.cell? ⟨ta', 3, none⟩ = some (.slice (some ⟨pg, 0, none⟩) (2 ^ s.shells.length) (2 ^ s.shells.length))))
       clear e0 e1 e2 e3
       have hA := Ext.refl WA
       obtain ⟨z0, z1, z2, z3, d0, d1, a0, a1, a2, a3⟩ := HS3.out _ hA
       go_wp2_with (first | (go_at_call 17; refine (HNU.out _ (HX0.out.trans hq)).mono ?_; rintro e w' ⟨rfl, hx1⟩; (try (replace hO := hO.trans hx1)); (try (replace hV := hV.trans hx1)); (try (replace hB := hB.trans hx1)); (try (replace hA := hA.trans hx1)); replace hq := hq.trans hx1; clear hx1 z0 z1 z2 z3 d0 d1 a0 a1 a2 a3; obtain ⟨z0, z1, z2, z3, d0, d1, a0, a1, a2, a3⟩ := HS3.out _ hA) | (go_at_call 7; refine (HB.out.known _ (HX0.out.trans hq)).mono ?_; rintro e w' ⟨rfl, hx1⟩; (try (replace hO := hO.trans hx1)); (try (replace hV := hV.trans hx1)); (try (replace hB := hB.trans hx1)); (try (replace hA := hA.trans hx1)); replace hq := hq.trans hx1; clear hx1 z0 z1 z2 z3 d0 d1 a0 a1 a2 a3; obtain ⟨z0, z1, z2, z3, d0, d1, a0, a1, a2, a3⟩ := HS3.out _ hA))
       go_ret
       exact ⟨rfl, HX0.out.trans hq⟩
      | true =>
       rw [h6] at HNU
       have HPO := Lib.hid (fun w1 (h : Ext w w1) => h5 ▸ Possible_ok (HBW.out w1 h) (HSW0.out w1 h) h3 h4)
       have HOR := Lib.hid (fun w1 (h : Ext w w1) => Origins_bad (i := n) 7 (HBW.out w1 h) (HSW0.out w1 h) (ask_rule h3 h4 (by unfold numberB at h6; exact h6) h5) (by decide))
       have HWE := Lib.hid (fun w1 (h : Ext w w1) => Weather_bad 7 (HBW.out w1 h) (HSW0.out w1 h) (ask_rule h3 h4 rfl h5) (by decide))
       have HCL := Lib.hid (fun w1 (h : Ext w w1) => Closed_bad 7 (HBW.out w1 h) (HSW0.out w1 h) (ask_rule h3 h4 rfl h5) (by decide))
       clear h3 h4 h5 h6
       go_upto_region 7 with (first | (go_at_call 5; refine (HB1.out _ (HX0.out.trans hq)).mono ?_; rintro e w' ⟨rfl, hx1⟩; (try (replace hO := hO.trans hx1)); (try (replace hV := hV.trans hx1)); (try (replace hB := hB.trans hx1)); (try (replace hA := hA.trans hx1)); replace hq := hq.trans hx1; clear hx1 z0 z1 z2 z3; obtain ⟨z0, z1, z2, z3⟩ := HS.out _ hq) | (go_at_call 6; refine (HBR.out _ (HX0.out.trans hq)).mono ?_; rintro e w' ⟨rfl, hx1⟩; (try (replace hO := hO.trans hx1)); (try (replace hV := hV.trans hx1)); (try (replace hB := hB.trans hx1)); (try (replace hA := hA.trans hx1)); replace hq := hq.trans hx1; clear hx1 z0 z1 z2 z3; obtain ⟨z0, z1, z2, z3⟩ := HS.out _ hq) | (go_at_call 13; refine (HPO.out _ (HX0.out.trans hq)).mono ?_; rintro e w' ⟨rfl, hx1⟩; (try (replace hO := hO.trans hx1)); (try (replace hV := hV.trans hx1)); (try (replace hB := hB.trans hx1)); (try (replace hA := hA.trans hx1)); replace hq := hq.trans hx1; clear hx1 z0 z1 z2 z3; obtain ⟨z0, z1, z2, z3⟩ := HS.out _ hq) | (go_at_call 14; refine (HOR.out _ (HX0.out.trans hq)).mono ?_; rintro e w' ⟨oa, oc, rfl, hx1, ho1⟩; (try (replace hO := hO.trans hx1)); (try (replace hV := hV.trans hx1)); (try (replace hB := hB.trans hx1)); (try (replace hA := hA.trans hx1)); replace hq := hq.trans hx1; have HO2 := Lib.hid (fun W (h : Ext w' W) => PairsAt.ext ho1 h); have hO := Ext.refl w'; clear ho1; clear hx1 z0 z1 z2 z3; obtain ⟨z0, z1, z2, z3⟩ := HS.out _ hq) | (go_at_call 15; refine (HWE.out _ (HX0.out.trans hq)).mono ?_; rintro e w' ⟨va, vc, rfl, hx1, hv1⟩; (try (replace hO := hO.trans hx1)); (try (replace hV := hV.trans hx1)); (try (replace hB := hB.trans hx1)); (try (replace hA := hA.trans hx1)); replace hq := hq.trans hx1; have HV2 := Lib.hid (fun W (h : Ext w' W) => SpansOff.ext hv1 h); have hV := Ext.refl w'; clear hv1; clear hx1 z0 z1 z2 z3; obtain ⟨z0, z1, z2, z3⟩ := HS.out _ hq) | (go_at_call 16; refine (HCL.out _ (HX0.out.trans hq)).mono ?_; rintro e w' ⟨rfl, hx1⟩; (try (replace hO := hO.trans hx1)); (try (replace hV := hV.trans hx1)); (try (replace hB := hB.trans hx1)); (try (replace hA := hA.trans hx1)); replace hq := hq.trans hx1; clear hx1 z0 z1 z2 z3; obtain ⟨z0, z1, z2, z3⟩ := HS.out _ hq))
       obtain ⟨WB, hWB⟩ : ∃ WB, WB = w'.alloc (.cells #[.int .i64 0, .int .i64 0] 52) := ⟨_, rfl⟩
       have hxb : Ext w' WB := by rw [hWB]; exact (Ext.refl w').alloc _
       have e0 : WB.cell? ⟨w'.heap.size, 0, none⟩ = some (.int .i64 0) := by rw [hWB]; go_simp
       have e1 : WB.cell? ⟨w'.heap.size, 1, none⟩ = some (.int .i64 0) := by rw [hWB]; go_simp
       rw [← hWB]
       clear hWB z0 z1 z2 z3
       replace hq := hq.trans hxb
       replace hO := hO.trans hxb
       replace hV := hV.trans hxb
       clear hxb
       generalize w'.heap.size = wb at *
       have HQB := Lib.hid hq
       have HS2 := Lib.hid (fun W (h : Ext WB W) => (⟨(HS.out W (HQB.out.trans h)).1, (HS.out W (HQB.out.trans h)).2.1, (HS.out W (HQB.out.trans h)).2.2.1, (HS.out W (HQB.out.trans h)).2.2.2, h.cell e0, h.cell e1⟩ : W.cell? ⟨w.heap.size, 0, none⟩ = some (.int .i64 b.years) ∧ W.cell? ⟨w.heap.size, 1, none⟩ = some (.slice ra b.rivers.length rc) ∧ W.cell? ⟨w.heap.size + 1, 0, none⟩ = some (.slice sa s.shells.length sc) ∧ W.cell? ⟨w.heap.size + 1, 1, none⟩ = some (.slice ta s.tests.length tc) ∧ W.cell? ⟨wb, 0, none⟩ = some (.int .i64 0) ∧ W.cell? ⟨wb, 1, none⟩ = some (.int .i64 0)))
       clear e0 e1
       have hB := Ext.refl WB
       obtain ⟨z0, z1, z2, z3, d0, d1⟩ := HS2.out _ hB
       go_upto_region 9 with (first | (go_at_call 9; refine (HB2.out _ (HX0.out.trans hq)).mono ?_; rintro e w' ⟨rfl, hx1⟩; (try (replace hO := hO.trans hx1)); (try (replace hV := hV.trans hx1)); (try (replace hB := hB.trans hx1)); (try (replace hA := hA.trans hx1)); replace hq := hq.trans hx1; clear hx1 z0 z1 z2 z3 d0 d1; obtain ⟨z0, z1, z2, z3, d0, d1⟩ := HS2.out _ hB) | (go_at_call 10; refine (HSA.out _ (HX0.out.trans hq)).mono ?_; rintro e w' ⟨rfl, hx1⟩; (try (replace hO := hO.trans hx1)); (try (replace hV := hV.trans hx1)); (try (replace hB := hB.trans hx1)); (try (replace hA := hA.trans hx1)); replace hq := hq.trans hx1; clear hx1 z0 z1 z2 z3 d0 d1; obtain ⟨z0, z1, z2, z3, d0, d1⟩ := HS2.out _ hB))
       go_upto_region 10 with (go_at_call 11; refine (HTU.out _ (HX0.out.trans hq)).mono ?_; rintro e w4 ⟨og, oc', wg, wc, pg, rfl, hta, hx4⟩)
       obtain ⟨WA, hWA⟩ : ∃ WA, WA = w4.alloc (.cells #[.bool false, .slice (some ⟨og, 0, none⟩) s.shells.length oc', .slice (some ⟨wg, 0, none⟩) b.rivers.length wc, .slice (some ⟨pg, 0, none⟩) (2 ^ s.shells.length) (2 ^ s.shells.length)] 39) := ⟨_, rfl⟩
       have hxa : Ext w4 WA := by rw [hWA]; exact (Ext.refl w4).alloc _
       have e0 : WA.cell? ⟨w4.heap.size, 0, none⟩ = some (.bool false) := by rw [hWA]; go_simp
       have e1 : WA.cell? ⟨w4.heap.size, 1, none⟩ = some (.slice (some ⟨og, 0, none⟩) s.shells.length oc') := by rw [hWA]; go_simp
       have e2 : WA.cell? ⟨w4.heap.size, 2, none⟩ = some (.slice (some ⟨wg, 0, none⟩) b.rivers.length wc) := by rw [hWA]; go_simp
       have e3 : WA.cell? ⟨w4.heap.size, 3, none⟩ = some (.slice (some ⟨pg, 0, none⟩) (2 ^ s.shells.length) (2 ^ s.shells.length)) := by rw [hWA]; go_simp
       rw [← hWA]
       clear hWA z0 z1 z2 z3 d0 d1
       have HTA := Lib.hid (fun W (h : Ext WA W) => (hta.ext hxa).ext h)
       replace hxa := hx4.trans hxa
       replace hq := hq.trans hxa
       replace hO := hO.trans hxa
       replace hV := hV.trans hxa
       replace hB := hB.trans hxa
       clear hxa hta hx4
       generalize w4.heap.size = ta' at *
       have HBB := Lib.hid hB
       have HS3 := Lib.hid (fun W (h : Ext WA W) => (⟨(HS2.out W (HBB.out.trans h)).1, (HS2.out W (HBB.out.trans h)).2.1, (HS2.out W (HBB.out.trans h)).2.2.1, (HS2.out W (HBB.out.trans h)).2.2.2.1, (HS2.out W (HBB.out.trans h)).2.2.2.2.1, (HS2.out W (HBB.out.trans h)).2.2.2.2.2, h.cell e0, h.cell e1, h.cell e2, h.cell e3⟩ : W.cell? ⟨w.heap.size, 0, none⟩ = some (.int .i64 b.years) ∧ W.cell? ⟨w.heap.size, 1, none⟩ = some (.slice ra b.rivers.length rc) ∧ W.cell? ⟨w.heap.size + 1, 0, none⟩ = some (.slice sa s.shells.length sc) ∧ W.cell? ⟨w.heap.size + 1, 1, none⟩ = some (.slice ta s.tests.length tc) ∧ W.cell? ⟨wb, 0, none⟩ = some (.int .i64 0) ∧ W.cell? ⟨wb, 1, none⟩ = some (.int .i64 0) ∧ W.cell? ⟨ta', 0, none⟩ = some (.bool false) ∧ W.cell? ⟨ta', 1, none⟩ = some (.slice (some ⟨og, 0, none⟩) s.shells.length oc') ∧ W.cell? ⟨ta', 2, none⟩ = some (.slice (some ⟨wg, 0, none⟩) b.rivers.length wc) ∧ W.cell? ⟨ta', 3, none⟩ = some (.slice (some ⟨pg, 0, none⟩) (2 ^ s.shells.length) (2 ^ s.shells.length))))
       clear e0 e1 e2 e3
       have hA := Ext.refl WA
       obtain ⟨z0, z1, z2, z3, d0, d1, a0, a1, a2, a3⟩ := HS3.out _ hA
       go_wp2_with (first | (go_at_call 17; refine (HNU.out _ (HX0.out.trans hq)).mono ?_; rintro e w' ⟨rfl, hx1⟩; (try (replace hO := hO.trans hx1)); (try (replace hV := hV.trans hx1)); (try (replace hB := hB.trans hx1)); (try (replace hA := hA.trans hx1)); replace hq := hq.trans hx1; clear hx1 z0 z1 z2 z3 d0 d1 a0 a1 a2 a3; obtain ⟨z0, z1, z2, z3, d0, d1, a0, a1, a2, a3⟩ := HS3.out _ hA) | (go_at_call 7; refine (HB.out.known _ (HX0.out.trans hq)).mono ?_; rintro e w' ⟨rfl, hx1⟩; (try (replace hO := hO.trans hx1)); (try (replace hV := hV.trans hx1)); (try (replace hB := hB.trans hx1)); (try (replace hA := hA.trans hx1)); replace hq := hq.trans hx1; clear hx1 z0 z1 z2 z3 d0 d1 a0 a1 a2 a3; obtain ⟨z0, z1, z2, z3, d0, d1, a0, a1, a2, a3⟩ := HS3.out _ hA))
       go_ret
       exact ⟨rfl, HX0.out.trans hq⟩
     | true =>
      rw [h5] at HTU
      have HPB := Lib.hid h5
      cases h6 : numberB s n with
      | false =>
       rw [h6] at HNU
       have HPO := Lib.hid (fun w1 (h : Ext w w1) => h5 ▸ Possible_ok (HBW.out w1 h) (HSW0.out w1 h) h3 h4)
       have HOR := Lib.hid (fun w1 (h : Ext w w1) => Origins_bad (i := n) 2 (HBW.out w1 h) (HSW0.out w1 h) (ask_arg (by rw [h3, h4]; unfold numberB at h6; rw [h6]; rfl)) (by decide))
       have HWE := Lib.hid (fun w1 (h : Ext w w1) => Weather_ok (HBW.out w1 h) (HSW0.out w1 h) (ask_ok h3 h4 rfl h5))
       have HCL := Lib.hid (fun w1 (h : Ext w w1) => Closed_ok (HBW.out w1 h) (HSW0.out w1 h) (ask_ok h3 h4 rfl h5))
       clear h3 h4 h5 h6
       go_upto_region 7 with (first | (go_at_call 5; refine (HB1.out _ (HX0.out.trans hq)).mono ?_; rintro e w' ⟨rfl, hx1⟩; (try (replace hO := hO.trans hx1)); (try (replace hV := hV.trans hx1)); (try (replace hB := hB.trans hx1)); (try (replace hA := hA.trans hx1)); replace hq := hq.trans hx1; clear hx1 z0 z1 z2 z3; obtain ⟨z0, z1, z2, z3⟩ := HS.out _ hq) | (go_at_call 6; refine (HBR.out _ (HX0.out.trans hq)).mono ?_; rintro e w' ⟨rfl, hx1⟩; (try (replace hO := hO.trans hx1)); (try (replace hV := hV.trans hx1)); (try (replace hB := hB.trans hx1)); (try (replace hA := hA.trans hx1)); replace hq := hq.trans hx1; clear hx1 z0 z1 z2 z3; obtain ⟨z0, z1, z2, z3⟩ := HS.out _ hq) | (go_at_call 13; refine (HPO.out _ (HX0.out.trans hq)).mono ?_; rintro e w' ⟨rfl, hx1⟩; (try (replace hO := hO.trans hx1)); (try (replace hV := hV.trans hx1)); (try (replace hB := hB.trans hx1)); (try (replace hA := hA.trans hx1)); replace hq := hq.trans hx1; clear hx1 z0 z1 z2 z3; obtain ⟨z0, z1, z2, z3⟩ := HS.out _ hq) | (go_at_call 14; refine (HOR.out _ (HX0.out.trans hq)).mono ?_; rintro e w' ⟨oa, oc, rfl, hx1, ho1⟩; (try (replace hO := hO.trans hx1)); (try (replace hV := hV.trans hx1)); (try (replace hB := hB.trans hx1)); (try (replace hA := hA.trans hx1)); replace hq := hq.trans hx1; have HO2 := Lib.hid (fun W (h : Ext w' W) => PairsAt.ext ho1 h); have hO := Ext.refl w'; clear ho1; clear hx1 z0 z1 z2 z3; obtain ⟨z0, z1, z2, z3⟩ := HS.out _ hq) | (go_at_call 15; refine (HWE.out _ (HX0.out.trans hq)).mono ?_; rintro e w' ⟨va, vc, rfl, hx1, hv1⟩; (try (replace hO := hO.trans hx1)); (try (replace hV := hV.trans hx1)); (try (replace hB := hB.trans hx1)); (try (replace hA := hA.trans hx1)); replace hq := hq.trans hx1; have HV2 := Lib.hid (fun W (h : Ext w' W) => SpansOff.ext hv1 h); have hV := Ext.refl w'; clear hv1; clear hx1 z0 z1 z2 z3; obtain ⟨z0, z1, z2, z3⟩ := HS.out _ hq) | (go_at_call 16; refine (HCL.out _ (HX0.out.trans hq)).mono ?_; rintro e w' ⟨rfl, hx1⟩; (try (replace hO := hO.trans hx1)); (try (replace hV := hV.trans hx1)); (try (replace hB := hB.trans hx1)); (try (replace hA := hA.trans hx1)); replace hq := hq.trans hx1; clear hx1 z0 z1 z2 z3; obtain ⟨z0, z1, z2, z3⟩ := HS.out _ hq))
       obtain ⟨WB, hWB⟩ : ∃ WB, WB = w'.alloc (.cells #[.int .i64 (closedOf b s).1, .int .i64 (closedOf b s).2] 52) := ⟨_, rfl⟩
       have hxb : Ext w' WB := by rw [hWB]; exact (Ext.refl w').alloc _
       have e0 : WB.cell? ⟨w'.heap.size, 0, none⟩ = some (.int .i64 (closedOf b s).1) := by rw [hWB]; go_simp
       have e1 : WB.cell? ⟨w'.heap.size, 1, none⟩ = some (.int .i64 (closedOf b s).2) := by rw [hWB]; go_simp
       rw [← hWB]
       clear hWB z0 z1 z2 z3
       replace hq := hq.trans hxb
       replace hO := hO.trans hxb
       replace hV := hV.trans hxb
       clear hxb
       generalize w'.heap.size = wb at *
       have HQB := Lib.hid hq
       have HS2 := Lib.hid (fun W (h : Ext WB W) => (⟨(HS.out W (HQB.out.trans h)).1, (HS.out W (HQB.out.trans h)).2.1, (HS.out W (HQB.out.trans h)).2.2.1, (HS.out W (HQB.out.trans h)).2.2.2, h.cell e0, h.cell e1⟩ : W.cell? ⟨w.heap.size, 0, none⟩ = some (.int .i64 b.years) ∧ W.cell? ⟨w.heap.size, 1, none⟩ = some (.slice ra b.rivers.length rc) ∧ W.cell? ⟨w.heap.size + 1, 0, none⟩ = some (.slice sa s.shells.length sc) ∧ W.cell? ⟨w.heap.size + 1, 1, none⟩ = some (.slice ta s.tests.length tc) ∧ W.cell? ⟨wb, 0, none⟩ = some (.int .i64 (closedOf b s).1) ∧ W.cell? ⟨wb, 1, none⟩ = some (.int .i64 (closedOf b s).2)))
       clear e0 e1
       have hB := Ext.refl WB
       obtain ⟨z0, z1, z2, z3, d0, d1⟩ := HS2.out _ hB
       go_upto_region 9 with (first | (go_at_call 9; refine (HB2.out _ (HX0.out.trans hq)).mono ?_; rintro e w' ⟨rfl, hx1⟩; (try (replace hO := hO.trans hx1)); (try (replace hV := hV.trans hx1)); (try (replace hB := hB.trans hx1)); (try (replace hA := hA.trans hx1)); replace hq := hq.trans hx1; clear hx1 z0 z1 z2 z3 d0 d1; obtain ⟨z0, z1, z2, z3, d0, d1⟩ := HS2.out _ hB) | (go_at_call 10; refine (HSA.out _ (HX0.out.trans hq)).mono ?_; rintro e w' ⟨rfl, hx1⟩; (try (replace hO := hO.trans hx1)); (try (replace hV := hV.trans hx1)); (try (replace hB := hB.trans hx1)); (try (replace hA := hA.trans hx1)); replace hq := hq.trans hx1; clear hx1 z0 z1 z2 z3 d0 d1; obtain ⟨z0, z1, z2, z3, d0, d1⟩ := HS2.out _ hB))
       go_upto_region 10 with (go_at_call 11; refine (HTU.out _ (HX0.out.trans hq)).mono ?_; rintro e w4 ⟨og, oc', wg, wc, pg, rfl, hta, hx4⟩)
       obtain ⟨WA, hWA⟩ : ∃ WA, WA = w4.alloc (.cells #[.bool true, .slice (some ⟨og, 0, none⟩) s.shells.length oc', .slice (some ⟨wg, 0, none⟩) b.rivers.length wc, .slice (some ⟨pg, 0, none⟩) (2 ^ s.shells.length) (2 ^ s.shells.length)] 39) := ⟨_, rfl⟩
       have hxa : Ext w4 WA := by rw [hWA]; exact (Ext.refl w4).alloc _
       have e0 : WA.cell? ⟨w4.heap.size, 0, none⟩ = some (.bool true) := by rw [hWA]; go_simp
       have e1 : WA.cell? ⟨w4.heap.size, 1, none⟩ = some (.slice (some ⟨og, 0, none⟩) s.shells.length oc') := by rw [hWA]; go_simp
       have e2 : WA.cell? ⟨w4.heap.size, 2, none⟩ = some (.slice (some ⟨wg, 0, none⟩) b.rivers.length wc) := by rw [hWA]; go_simp
       have e3 : WA.cell? ⟨w4.heap.size, 3, none⟩ = some (.slice (some ⟨pg, 0, none⟩) (2 ^ s.shells.length) (2 ^ s.shells.length)) := by rw [hWA]; go_simp
       rw [← hWA]
       clear hWA z0 z1 z2 z3 d0 d1
       have HTA := Lib.hid (fun W (h : Ext WA W) => (hta.ext hxa).ext h)
       replace hxa := hx4.trans hxa
       replace hq := hq.trans hxa
       replace hO := hO.trans hxa
       replace hV := hV.trans hxa
       replace hB := hB.trans hxa
       clear hxa hta hx4
       generalize w4.heap.size = ta' at *
       have HBB := Lib.hid hB
       have HS3 := Lib.hid (fun W (h : Ext WA W) => (⟨(HS2.out W (HBB.out.trans h)).1, (HS2.out W (HBB.out.trans h)).2.1, (HS2.out W (HBB.out.trans h)).2.2.1, (HS2.out W (HBB.out.trans h)).2.2.2.1, (HS2.out W (HBB.out.trans h)).2.2.2.2.1, (HS2.out W (HBB.out.trans h)).2.2.2.2.2, h.cell e0, h.cell e1, h.cell e2, h.cell e3⟩ : W.cell? ⟨w.heap.size, 0, none⟩ = some (.int .i64 b.years) ∧ W.cell? ⟨w.heap.size, 1, none⟩ = some (.slice ra b.rivers.length rc) ∧ W.cell? ⟨w.heap.size + 1, 0, none⟩ = some (.slice sa s.shells.length sc) ∧ W.cell? ⟨w.heap.size + 1, 1, none⟩ = some (.slice ta s.tests.length tc) ∧ W.cell? ⟨wb, 0, none⟩ = some (.int .i64 (closedOf b s).1) ∧ W.cell? ⟨wb, 1, none⟩ = some (.int .i64 (closedOf b s).2) ∧ W.cell? ⟨ta', 0, none⟩ = some (.bool true) ∧ W.cell? ⟨ta', 1, none⟩ = some (.slice (some ⟨og, 0, none⟩) s.shells.length oc') ∧ W.cell? ⟨ta', 2, none⟩ = some (.slice (some ⟨wg, 0, none⟩) b.rivers.length wc) ∧ W.cell? ⟨ta', 3, none⟩ = some (.slice (some ⟨pg, 0, none⟩) (2 ^ s.shells.length) (2 ^ s.shells.length))))
       clear e0 e1 e2 e3
       have hA := Ext.refl WA
       obtain ⟨z0, z1, z2, z3, d0, d1, a0, a1, a2, a3⟩ := HS3.out _ hA
       go_upto_region 16 with (first | (go_at_call 17; refine (HNU.out _ (HX0.out.trans hq)).mono ?_; rintro e w' ⟨rfl, hx1⟩; (try (replace hO := hO.trans hx1)); (try (replace hV := hV.trans hx1)); (try (replace hB := hB.trans hx1)); (try (replace hA := hA.trans hx1)); replace hq := hq.trans hx1; clear hx1 z0 z1 z2 z3 d0 d1 a0 a1 a2 a3; obtain ⟨z0, z1, z2, z3, d0, d1, a0, a1, a2, a3⟩ := HS3.out _ hA))
       obtain ⟨wk, rfl⟩ : ∃ wk : World, wk = w' := ⟨_, rfl⟩
       have HF := Lib.hid (fun W (h : Ext wk W) => HS3.out W (hA.trans h))
       have HKN := Lib.hid (fun W (h : Ext wk W) => HB.out.known W (HX0.out.trans (hq.trans h)))
       have HSW := Lib.hid (fun W (h : Ext wk W) => sameW_yes _ _ (weatherOf b s) W (HV2.out W (hV.trans h)) ((HTA.out W (hA.trans h)).wea HPB.out))
       have HMA := Lib.hid (fun W (h : Ext wk W) => many_truths (oc := oc') true HBB'.out HSB'.out (HTA.out W (hA.trans h)))
       have HXQ := Lib.hid hq
       clear z0 z1 z2 z3 d0 d1 a0 a1 a2 a3 hq hO hV hB hA
       go_upto_region 16 with fail
       refine region_reads (C := fun W => Ext wk W) (by kernel_rfl) (by kernel_rfl) ((Ext.refl wk).drew) ?_
       repeat (first | go_big_quiet_skip | (go_big_quiet_want; go_big_quiet_op; first | go_big_quiet_on | (refine ⟨_, fun W hW => rfl, ?_⟩; go_big_quiet_on)) | (go_big_quiet_want; refine ⟨?_, fun W hW => ?_, ?_⟩; rotate_left; (· (obtain ⟨p0, p1, p2, p3, p4, p5, p6, p7, p8, p9⟩ := HF.out W hW); go_simp; (first | with_reducible rfl | (go_at_call 20; refine (HSW.out W hW).mono ?_; rintro e w' ⟨rfl, hx1⟩; constructor; with_reducible rfl; exact hW.trans hx1) | (go_at_call 21; refine (HMA.out W hW).mono ?_; rintro e w' ⟨rfl, hx1⟩; constructor; with_reducible rfl; exact hW.trans hx1) | (go_at_call 7; refine (HKN.out W hW).mono ?_; rintro e w' ⟨rfl, hx1⟩; constructor; with_reducible rfl; exact hW.trans hx1))); (try simp only [Act.put, yA, yB, yC]); go_big_quiet_on))
       refine wpQuiet_nil ?_
       intro wq hq
       go_wp2
       go_ret
       exact ⟨rfl, HX0.out.trans (HXQ.out.trans hq)⟩
      | true =>
       rw [h6] at HNU
       have h6' := h6
       unfold numberB at h6'
       obtain ⟨i, rfl, hi⟩ : ∃ i : Nat, n = (i : Int) ∧ i < s.shells.length := by
        have := inB_iff.1 h6'
        exact ⟨n.toNat, by omega, by omega⟩
       have HPO := Lib.hid (fun w1 (h : Ext w w1) => h5 ▸ Possible_ok (HBW.out w1 h) (HSW0.out w1 h) h3 h4)
       have HOR := Lib.hid (fun w1 (h : Ext w w1) => Origins_ok (i := (i : Int)) (HBW.out w1 h) (HSW0.out w1 h) (ask_ok h3 h4 h6' h5))
       have HWE := Lib.hid (fun w1 (h : Ext w w1) => Weather_ok (HBW.out w1 h) (HSW0.out w1 h) (ask_ok h3 h4 rfl h5))
       have HCL := Lib.hid (fun w1 (h : Ext w w1) => Closed_ok (HBW.out w1 h) (HSW0.out w1 h) (ask_ok h3 h4 rfl h5))
       simp only [Int.toNat_natCast] at HOR
       have HIL := Lib.hid hi
       clear h3 h4 h5 h6 h6' hi
       go_upto_region 7 with (first | (go_at_call 5; refine (HB1.out _ (HX0.out.trans hq)).mono ?_; rintro e w' ⟨rfl, hx1⟩; (try (replace hO := hO.trans hx1)); (try (replace hV := hV.trans hx1)); (try (replace hB := hB.trans hx1)); (try (replace hA := hA.trans hx1)); replace hq := hq.trans hx1; clear hx1 z0 z1 z2 z3; obtain ⟨z0, z1, z2, z3⟩ := HS.out _ hq) | (go_at_call 6; refine (HBR.out _ (HX0.out.trans hq)).mono ?_; rintro e w' ⟨rfl, hx1⟩; (try (replace hO := hO.trans hx1)); (try (replace hV := hV.trans hx1)); (try (replace hB := hB.trans hx1)); (try (replace hA := hA.trans hx1)); replace hq := hq.trans hx1; clear hx1 z0 z1 z2 z3; obtain ⟨z0, z1, z2, z3⟩ := HS.out _ hq) | (go_at_call 13; refine (HPO.out _ (HX0.out.trans hq)).mono ?_; rintro e w' ⟨rfl, hx1⟩; (try (replace hO := hO.trans hx1)); (try (replace hV := hV.trans hx1)); (try (replace hB := hB.trans hx1)); (try (replace hA := hA.trans hx1)); replace hq := hq.trans hx1; clear hx1 z0 z1 z2 z3; obtain ⟨z0, z1, z2, z3⟩ := HS.out _ hq) | (go_at_call 14; refine (HOR.out _ (HX0.out.trans hq)).mono ?_; rintro e w' ⟨oa, oc, rfl, hx1, ho1⟩; (try (replace hO := hO.trans hx1)); (try (replace hV := hV.trans hx1)); (try (replace hB := hB.trans hx1)); (try (replace hA := hA.trans hx1)); replace hq := hq.trans hx1; have HO2 := Lib.hid (fun W (h : Ext w' W) => PairsAt.ext ho1 h); have hO := Ext.refl w'; clear ho1; clear hx1 z0 z1 z2 z3; obtain ⟨z0, z1, z2, z3⟩ := HS.out _ hq) | (go_at_call 15; refine (HWE.out _ (HX0.out.trans hq)).mono ?_; rintro e w' ⟨va, vc, rfl, hx1, hv1⟩; (try (replace hO := hO.trans hx1)); (try (replace hV := hV.trans hx1)); (try (replace hB := hB.trans hx1)); (try (replace hA := hA.trans hx1)); replace hq := hq.trans hx1; have HV2 := Lib.hid (fun W (h : Ext w' W) => SpansOff.ext hv1 h); have hV := Ext.refl w'; clear hv1; clear hx1 z0 z1 z2 z3; obtain ⟨z0, z1, z2, z3⟩ := HS.out _ hq) | (go_at_call 16; refine (HCL.out _ (HX0.out.trans hq)).mono ?_; rintro e w' ⟨rfl, hx1⟩; (try (replace hO := hO.trans hx1)); (try (replace hV := hV.trans hx1)); (try (replace hB := hB.trans hx1)); (try (replace hA := hA.trans hx1)); replace hq := hq.trans hx1; clear hx1 z0 z1 z2 z3; obtain ⟨z0, z1, z2, z3⟩ := HS.out _ hq))
       obtain ⟨WB, hWB⟩ : ∃ WB, WB = w'.alloc (.cells #[.int .i64 (closedOf b s).1, .int .i64 (closedOf b s).2] 52) := ⟨_, rfl⟩
       have hxb : Ext w' WB := by rw [hWB]; exact (Ext.refl w').alloc _
       have e0 : WB.cell? ⟨w'.heap.size, 0, none⟩ = some (.int .i64 (closedOf b s).1) := by rw [hWB]; go_simp
       have e1 : WB.cell? ⟨w'.heap.size, 1, none⟩ = some (.int .i64 (closedOf b s).2) := by rw [hWB]; go_simp
       rw [← hWB]
       clear hWB z0 z1 z2 z3
       replace hq := hq.trans hxb
       replace hO := hO.trans hxb
       replace hV := hV.trans hxb
       clear hxb
       generalize w'.heap.size = wb at *
       have HQB := Lib.hid hq
       have HS2 := Lib.hid (fun W (h : Ext WB W) => (⟨(HS.out W (HQB.out.trans h)).1, (HS.out W (HQB.out.trans h)).2.1, (HS.out W (HQB.out.trans h)).2.2.1, (HS.out W (HQB.out.trans h)).2.2.2, h.cell e0, h.cell e1⟩ : W.cell? ⟨w.heap.size, 0, none⟩ = some (.int .i64 b.years) ∧ W.cell? ⟨w.heap.size, 1, none⟩ = some (.slice ra b.rivers.length rc) ∧ W.cell? ⟨w.heap.size + 1, 0, none⟩ = some (.slice sa s.shells.length sc) ∧ W.cell? ⟨w.heap.size + 1, 1, none⟩ = some (.slice ta s.tests.length tc) ∧ W.cell? ⟨wb, 0, none⟩ = some (.int .i64 (closedOf b s).1) ∧ W.cell? ⟨wb, 1, none⟩ = some (.int .i64 (closedOf b s).2)))
       clear e0 e1
       have hB := Ext.refl WB
       obtain ⟨z0, z1, z2, z3, d0, d1⟩ := HS2.out _ hB
       go_upto_region 9 with (first | (go_at_call 9; refine (HB2.out _ (HX0.out.trans hq)).mono ?_; rintro e w' ⟨rfl, hx1⟩; (try (replace hO := hO.trans hx1)); (try (replace hV := hV.trans hx1)); (try (replace hB := hB.trans hx1)); (try (replace hA := hA.trans hx1)); replace hq := hq.trans hx1; clear hx1 z0 z1 z2 z3 d0 d1; obtain ⟨z0, z1, z2, z3, d0, d1⟩ := HS2.out _ hB) | (go_at_call 10; refine (HSA.out _ (HX0.out.trans hq)).mono ?_; rintro e w' ⟨rfl, hx1⟩; (try (replace hO := hO.trans hx1)); (try (replace hV := hV.trans hx1)); (try (replace hB := hB.trans hx1)); (try (replace hA := hA.trans hx1)); replace hq := hq.trans hx1; clear hx1 z0 z1 z2 z3 d0 d1; obtain ⟨z0, z1, z2, z3, d0, d1⟩ := HS2.out _ hB))
       go_upto_region 10 with (go_at_call 11; refine (HTU.out _ (HX0.out.trans hq)).mono ?_; rintro e w4 ⟨og, oc', wg, wc, pg, rfl, hta, hx4⟩)
       obtain ⟨WA, hWA⟩ : ∃ WA, WA = w4.alloc (.cells #[.bool true, .slice (some ⟨og, 0, none⟩) s.shells.length oc', .slice (some ⟨wg, 0, none⟩) b.rivers.length wc, .slice (some ⟨pg, 0, none⟩) (2 ^ s.shells.length) (2 ^ s.shells.length)] 39) := ⟨_, rfl⟩
       have hxa : Ext w4 WA := by rw [hWA]; exact (Ext.refl w4).alloc _
       have e0 : WA.cell? ⟨w4.heap.size, 0, none⟩ = some (.bool true) := by rw [hWA]; go_simp
       have e1 : WA.cell? ⟨w4.heap.size, 1, none⟩ = some (.slice (some ⟨og, 0, none⟩) s.shells.length oc') := by rw [hWA]; go_simp
       have e2 : WA.cell? ⟨w4.heap.size, 2, none⟩ = some (.slice (some ⟨wg, 0, none⟩) b.rivers.length wc) := by rw [hWA]; go_simp
       have e3 : WA.cell? ⟨w4.heap.size, 3, none⟩ = some (.slice (some ⟨pg, 0, none⟩) (2 ^ s.shells.length) (2 ^ s.shells.length)) := by rw [hWA]; go_simp
       rw [← hWA]
       clear hWA z0 z1 z2 z3 d0 d1
       have HTA := Lib.hid (fun W (h : Ext WA W) => (hta.ext hxa).ext h)
       replace hxa := hx4.trans hxa
       replace hq := hq.trans hxa
       replace hO := hO.trans hxa
       replace hV := hV.trans hxa
       replace hB := hB.trans hxa
       clear hxa hta hx4
       generalize w4.heap.size = ta' at *
       have HBB := Lib.hid hB
       have HS3 := Lib.hid (fun W (h : Ext WA W) => (⟨(HS2.out W (HBB.out.trans h)).1, (HS2.out W (HBB.out.trans h)).2.1, (HS2.out W (HBB.out.trans h)).2.2.1, (HS2.out W (HBB.out.trans h)).2.2.2.1, (HS2.out W (HBB.out.trans h)).2.2.2.2.1, (HS2.out W (HBB.out.trans h)).2.2.2.2.2, h.cell e0, h.cell e1, h.cell e2, h.cell e3⟩ : W.cell? ⟨w.heap.size, 0, none⟩ = some (.int .i64 b.years) ∧ W.cell? ⟨w.heap.size, 1, none⟩ = some (.slice ra b.rivers.length rc) ∧ W.cell? ⟨w.heap.size + 1, 0, none⟩ = some (.slice sa s.shells.length sc) ∧ W.cell? ⟨w.heap.size + 1, 1, none⟩ = some (.slice ta s.tests.length tc) ∧ W.cell? ⟨wb, 0, none⟩ = some (.int .i64 (closedOf b s).1) ∧ W.cell? ⟨wb, 1, none⟩ = some (.int .i64 (closedOf b s).2) ∧ W.cell? ⟨ta', 0, none⟩ = some (.bool true) ∧ W.cell? ⟨ta', 1, none⟩ = some (.slice (some ⟨og, 0, none⟩) s.shells.length oc') ∧ W.cell? ⟨ta', 2, none⟩ = some (.slice (some ⟨wg, 0, none⟩) b.rivers.length wc) ∧ W.cell? ⟨ta', 3, none⟩ = some (.slice (some ⟨pg, 0, none⟩) (2 ^ s.shells.length) (2 ^ s.shells.length))))
       clear e0 e1 e2 e3
       have hA := Ext.refl WA
       obtain ⟨z0, z1, z2, z3, d0, d1, a0, a1, a2, a3⟩ := HS3.out _ hA
       have HOF := Lib.hid (fun W (h : Ext w W) (k : Ext WA W) => of_truths (oc := oc') true (HBW.out W h) HBB'.out HSB'.out (HTA.out W k) HIL.out)
       go_upto_region 16 with (first | (go_at_call 17; refine (HNU.out _ (HX0.out.trans hq)).mono ?_; rintro e w' ⟨rfl, hx1⟩; (try (replace hO := hO.trans hx1)); (try (replace hV := hV.trans hx1)); (try (replace hB := hB.trans hx1)); (try (replace hA := hA.trans hx1)); replace hq := hq.trans hx1; clear hx1 z0 z1 z2 z3 d0 d1 a0 a1 a2 a3; obtain ⟨z0, z1, z2, z3, d0, d1, a0, a1, a2, a3⟩ := HS3.out _ hA) | (go_at_call 19; refine (HOF.out _ (HX0.out.trans hq) hA).mono ?_; rintro e w' ⟨ua, uc, rfl, hu, hx1⟩; (try (replace hO := hO.trans hx1)); (try (replace hV := hV.trans hx1)); (try (replace hB := hB.trans hx1)); (try (replace hA := hA.trans hx1)); replace hq := hq.trans hx1; have HU := Lib.hid hu; clear hu; clear hx1 z0 z1 z2 z3 d0 d1 a0 a1 a2 a3; obtain ⟨z0, z1, z2, z3, d0, d1, a0, a1, a2, a3⟩ := HS3.out _ hA) | (go_at_call 18; refine (sameO_yes _ _ (couldOf b s i) _ (HO2.out _ hO) HU.out).mono ?_; rintro e w' ⟨rfl, hx1⟩; (try (replace hO := hO.trans hx1)); (try (replace hV := hV.trans hx1)); (try (replace hB := hB.trans hx1)); (try (replace hA := hA.trans hx1)); replace hq := hq.trans hx1; clear hx1 z0 z1 z2 z3 d0 d1 a0 a1 a2 a3; obtain ⟨z0, z1, z2, z3, d0, d1, a0, a1, a2, a3⟩ := HS3.out _ hA))
       obtain ⟨wk, rfl⟩ : ∃ wk : World, wk = w' := ⟨_, rfl⟩
       have HF := Lib.hid (fun W (h : Ext wk W) => HS3.out W (hA.trans h))
       have HKN := Lib.hid (fun W (h : Ext wk W) => HB.out.known W (HX0.out.trans (hq.trans h)))
       have HSW := Lib.hid (fun W (h : Ext wk W) => sameW_yes _ _ (weatherOf b s) W (HV2.out W (hV.trans h)) ((HTA.out W (hA.trans h)).wea HPB.out))
       have HMA := Lib.hid (fun W (h : Ext wk W) => many_truths (oc := oc') true HBB'.out HSB'.out (HTA.out W (hA.trans h)))
       have HXQ := Lib.hid hq
       clear z0 z1 z2 z3 d0 d1 a0 a1 a2 a3 hq hO hV hB hA
       go_upto_region 16 with fail
       refine region_reads (C := fun W => Ext wk W) (by kernel_rfl) (by kernel_rfl) ((Ext.refl wk).drew) ?_
       repeat (first | go_big_quiet_skip | (go_big_quiet_want; go_big_quiet_op; first | go_big_quiet_on | (refine ⟨_, fun W hW => rfl, ?_⟩; go_big_quiet_on)) | (go_big_quiet_want; refine ⟨?_, fun W hW => ?_, ?_⟩; rotate_left; (· (obtain ⟨p0, p1, p2, p3, p4, p5, p6, p7, p8, p9⟩ := HF.out W hW); go_simp; (first | with_reducible rfl | (go_at_call 20; refine (HSW.out W hW).mono ?_; rintro e w' ⟨rfl, hx1⟩; constructor; with_reducible rfl; exact hW.trans hx1) | (go_at_call 21; refine (HMA.out W hW).mono ?_; rintro e w' ⟨rfl, hx1⟩; constructor; with_reducible rfl; exact hW.trans hx1) | (go_at_call 7; refine (HKN.out W hW).mono ?_; rintro e w' ⟨rfl, hx1⟩; constructor; with_reducible rfl; exact hW.trans hx1))); (try simp only [Act.put, yA, yB, yC]); go_big_quiet_on))
       refine wpQuiet_nil ?_
       intro wq hq
       go_wp2
       go_ret
       exact ⟨rfl, HX0.out.trans (HXQ.out.trans hq)⟩
end Go.Proofs.YtiodjapdiflphaaGreatDoor
