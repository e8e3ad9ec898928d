/- The law's has; the law RiverLess. -/
import Derived.Test.YtabkfohbdfpdpaaGreatDoorKnown
import Derived.Test.YtabkfohbdfpdpaaGreatDoorOnep
import Derived.Test.YtabkfohbdfpdpaaGreatDoorLawb
namespace Go.Proofs.YtabkfohbdfpdpaaGreatDoor
open Go.RowKit

set_option maxRecDepth 100000 in
set_option maxHeartbeats 2000000 in
theorem lhas_any (v : Value) (xs : List Org) (o : Org) (w : World) (hv : PairsAt w v xs) :
    Calls Tryz.prog 20 #[v, .agg #[.int .i64 o.1, .int .i64 o.2]] w fun e w' => e = .returned (.bool ((xs.take 30).any (fun x => x == o))) ∧ Ext w w' := by
  obtain ⟨a, c, rfl, h1, h2, h3⟩ := hv.open
  have hmix : Tryz.prog.follows .mixedOrders = true := by kernel_rfl
  have hsg := org_guard
  have hse := org_eql
  have H3 := Lib.hid h3
  have HX0 := Lib.hid ((Ext.refl w).alloc (.cells #[.int .i64 o.1, .int .i64 o.2] 27))
  have HS := Lib.hid (fun W (h : Ext (w.alloc (.cells #[.int .i64 o.1, .int .i64 o.2] 27)) W) => (⟨h.cell (by go_simp), h.cell (by go_simp)⟩ : W.cell? ⟨w.heap.size, 0, none⟩ = some (.int .i64 o.1) ∧ W.cell? ⟨w.heap.size, 1, none⟩ = some (.int .i64 o.2)))
  clear h3 hv
  go_enter Tryz.func20, Tryz.ntmps20
  go_wp2
  go_loopw [5] (fun i wr => ∃ k : Nat, k ≤ xs.length ∧ k ≤ 30 ∧ i = .int .i64 k ∧ Hid ((xs.take k).any (fun x => x == o) = false) ∧ Ext (w.alloc (.cells #[.int .i64 o.1, .int .i64 o.2] 27)) wr) (fun i _ => xs.length - (intOf i).toNat)
  case atStart => exact ⟨0, Nat.zero_le _, by omega, rfl, by simp [Hid], Ext.refl _⟩
  case round =>
    obtain ⟨k, hk, hk3, rfl, hno, hx⟩ := hrel
    obtain ⟨z0, z1⟩ := HS.out _ hx
    by_cases hlt : k < xs.length
    · have x2 : decide ((k : Int) < (xs.length : Int)) = true := by simpa using hlt
      by_cases h30 : k < 30
      · have x3 : decide ((k : Int) < 30) = true := by simp; omega
        obtain ⟨b, f, x, rfl, hxk, c0, c1⟩ := H3.out k hlt
        have d0 := (HX0.out.trans hx).cell c0
        have d1 := (HX0.out.trans hx).cell c1
        have i1 : (0 : Int) ≤ (k : Int) := by omega
        have i2 : (k : Int) < (xs.length : Int) := by omega
        obtain ⟨x1, y1⟩ := x
        obtain ⟨o1, o2⟩ := o
        simp only at d0 d1 z0 z1
        clear c0 c1
        by_cases he : (x1, y1) = (o1, o2)
        · have HN : Hid ((xs.take 30).any (fun x => x == (o1, o2)) = true) := by
            unfold Hid; rw [List.any_eq_true]; exact ⟨(x1, y1), List.mem_iff_getElem?.2 ⟨k, by rw [List.getElem?_take, if_pos h30]; exact hxk.out⟩, by simp [he]⟩
          have e1 : x1 = o1 := congrArg Prod.fst he
          have e2 : y1 = o2 := congrArg Prod.snd he
          subst e1 e2
          clear he
          go_wp2
          go_quiet (fail)
          go_wp2
          go_ret
          exact ⟨by rw [HN.out] <;> rfl, (HX0.out.trans hx).drewN _⟩
        · have HN : Hid ((xs.take (k + 1)).any (fun x => x == (o1, o2)) = false) := by
            unfold Hid; rw [any_take_succ _ hxk.out, hno.out]; simpa using he
          have t4 : (x1 == o1 && y1 == o2) = false := by
            rw [Bool.and_eq_false_iff]
            by_cases e1 : x1 = o1
            · right; rw [beq_eq_false_iff_ne]; exact fun e2 => he (by rw [e1, e2])
            · left; rw [beq_eq_false_iff_ne]; exact e1
          rcases Bool.and_eq_false_iff.1 t4 with t5 | t5
          all_goals
            clear he t4
            go_wp2
            go_quiet (fail)
            go_wp2
            go_roundw
            case rel => exact ⟨k + 1, by omega, by omega, by go_num, HN, hx.drewN _⟩
            case measure => simp [intOf]; omega
      · have x3 : decide ((k : Int) < 30) = false := by simp; omega
        have HN : Hid ((xs.take 30).any (fun x => x == o) = false) := by have h := hno.out; rwa [show k = 30 by omega] at h
        go_wp2
        go_ret
        exact ⟨by rw [HN.out] <;> rfl, HX0.out.trans hx⟩
    · have x2 : decide ((k : Int) < (xs.length : Int)) = false := by simp; omega
      have HN : Hid ((xs.take 30).any (fun x => x == o) = false) := by
        have h := hno.out
        rw [List.take_of_length_le (by omega)] at h
        rw [Hid, List.take_of_length_le (by omega)]; exact h
      go_wp2
      go_ret
      exact ⟨by rw [HN.out] <;> rfl, HX0.out.trans hx⟩
theorem has_yes {v : Value} {xs : List Org} {o : Org} {w : World} (hv : PairsAt w v xs) (hl : xs.length ≤ 30) (h : o ∈ xs) : Calls Tryz.prog 20 #[v, .agg #[.int .i64 o.1, .int .i64 o.2]] w fun e w' => e = .returned (.bool true) ∧ Ext w w' :=
  (lhas_any v xs o w hv).mono fun e w' q => by
    rw [List.take_of_length_le hl, show xs.any (fun x => x == o) = true by rw [List.any_eq_true]; exact ⟨o, h, by simp⟩] at q
    exact q
theorem Could_ok {bv sv : Value} {b : Book} {s : Shell} {w : World} (hb : BookAt w bv b) (hs : ShellAt w sv s) (h : couldArg b s = true) : Calls Tryz.prog 18 #[bv, sv] w fun e w' => ∃ (a : Option Addr) (c : Nat), e = .returned (.tuple #[.slice a (couldOf b (oneOf s) 0).length c, .int .i64 0]) ∧ Ext w w' ∧ PairsAt w' (.slice a (couldOf b (oneOf s) 0).length c) (couldOf b (oneOf s) 0) :=
  (Could_any bv sv b s w hb hs).mono fun e w' q => by
    obtain ⟨v, h1, h2, h3⟩ := q
    rw [h, if_pos rfl] at h1 h3
    obtain ⟨a, c, rfl, _⟩ := h3.open
    exact ⟨a, c, h1, h2, h3⟩
theorem Word_ok {bv sv : Value} {b : Book} {s : Shell} {w : World} (hb : BookAt w bv b) (hs : ShellAt w sv s) (h : couldArg b s = true) : Calls Tryz.prog 19 #[bv, sv] w fun e w' => e = .returned (.tuple #[.int .i64 (wordOf b (couldOf b (oneOf s) 0)), .int .i64 0]) ∧ Ext w w' :=
  (Word_any bv sv b s w hb hs).mono fun e w' q => by
    obtain ⟨h1, h2⟩ := q
    rw [h, if_pos rfl, if_pos rfl] at h1
    exact ⟨h1, h2⟩
set_option maxRecDepth 100000 in
set_option maxHeartbeats 8000000 in
theorem riverLess_any (v : Value) (b : Book) (sv : Value) (s : Shell) (d : Int) (w : World) (hb : BookAt w v b) (hs : ShellAt w sv s) (ht : TabOk w) :
    Calls Tryz.prog 6 #[v, sv, .int .i64 d] w (TrueP w) := by
  have HB := Lib.hid (LawB.of hb ht)
  have HSH := Lib.hid (fun w1 (h : Ext w w1) => rshell_any sv s w1 (hs.ext h))
  have HBB := Lib.hid (fun w1 (h : Ext w w1) => hb.ext h)
  have HSS := Lib.hid (fun w1 (h : Ext w w1) => hs.ext h)
  obtain ⟨ra, rc, rfl, _⟩ := hb.slice
  obtain ⟨gv, rfl, hg⟩ := hs
  obtain ⟨ga, gc, rfl, _⟩ := hg.open
  have HX0 := Lib.hid (((Ext.refl w).alloc _).alloc _ : Ext w ((w.alloc (.cells #[.int .i64 b.years, .slice ra b.rivers.length rc] 24)).alloc (.cells #[.slice ga s.rings.length gc, .int .i64 s.off] 45)))
  have HS := Lib.hid (fun W (h : Ext ((w.alloc (.cells #[.int .i64 b.years, .slice ra b.rivers.length rc] 24)).alloc (.cells #[.slice ga s.rings.length gc, .int .i64 s.off] 45)) W) => (⟨h.cell (by go_simp), h.cell (by go_simp), h.cell (by go_simp), h.cell (by go_simp)⟩ : W.cell? ⟨w.heap.size, 0, none⟩ = some (.int .i64 b.years) ∧ W.cell? ⟨w.heap.size, 1, none⟩ = some (.slice ra b.rivers.length rc) ∧ W.cell? ⟨w.heap.size + 1, 0, none⟩ = some (.slice ga s.rings.length gc) ∧ W.cell? ⟨w.heap.size + 1, 1, none⟩ = some (.int .i64 s.off)))
  have HG := Lib.hid (fun w1 (h : Ext w w1) => IntsAt.ext hg h)
  clear hb ht hg
  cases hsl : slimB b with
  | false =>
    go_enter Tryz.func6, Tryz.ntmps6
    go_wp2_with (first | (go_at_call 11; refine (HB.out.slim _ HX0.out).mono ?_; rintro e w1 ⟨rfl, hq⟩; obtain ⟨z0, z1, z2, z3⟩ := HS.out _ hq) | (go_at_call 16; refine (HB.out.known _ (HX0.out.trans hq)).mono ?_; rintro e w4 ⟨rfl, hx4⟩))
    go_ret
    exact ⟨rfl, (HX0.out.trans hq).trans hx4⟩
  | true =>
    by_cases h7 : 7 < s.rings.length
    · have t7 : decide ((7 : Int) < (s.rings.length : Int)) = true := by simp; omega
      go_enter Tryz.func6, Tryz.ntmps6
      go_wp2_with (first | (go_at_call 11; refine (HB.out.slim _ HX0.out).mono ?_; rintro e w1 ⟨rfl, hq⟩; obtain ⟨z0, z1, z2, z3⟩ := HS.out _ hq) | (go_at_call 16; refine (HB.out.known _ (HX0.out.trans hq)).mono ?_; rintro e w4 ⟨rfl, hx4⟩))
      go_ret
      exact ⟨rfl, (HX0.out.trans hq).trans hx4⟩
    · have t7 : decide ((7 : Int) < (s.rings.length : Int)) = false := by simp; omega
      cases h1 : isBookB b with
      | false =>
        go_enter Tryz.func6, Tryz.ntmps6
        go_wp2_with (first | (go_at_call 11; refine (HB.out.slim _ HX0.out).mono ?_; rintro e w1 ⟨rfl, hq⟩; obtain ⟨z0, z1, z2, z3⟩ := HS.out _ hq) | (go_at_call 12; refine (HB.out.book _ (HX0.out.trans hq)).mono ?_; rintro e w1 ⟨rfl, hx1⟩; replace hq := hq.trans hx1; clear hx1 z0 z1 z2 z3; obtain ⟨z0, z1, z2, z3⟩ := HS.out _ hq) | (go_at_call 16; refine (HB.out.known _ (HX0.out.trans hq)).mono ?_; rintro e w4 ⟨rfl, hx4⟩))
        go_ret
        exact ⟨rfl, (HX0.out.trans hq).trans hx4⟩
      | true =>
        cases h2 : isShellB s with
        | false =>
          go_enter Tryz.func6, Tryz.ntmps6
          go_wp2_with (first | (go_at_call 11; refine (HB.out.slim _ HX0.out).mono ?_; rintro e w1 ⟨rfl, hq⟩; obtain ⟨z0, z1, z2, z3⟩ := HS.out _ hq) | (go_at_call 12; refine (HB.out.book _ (HX0.out.trans hq)).mono ?_; rintro e w1 ⟨rfl, hx1⟩; replace hq := hq.trans hx1; clear hx1 z0 z1 z2 z3; obtain ⟨z0, z1, z2, z3⟩ := HS.out _ hq) | (go_at_call 17; refine (HSH.out _ (HX0.out.trans hq)).mono ?_; rintro e w1 ⟨rfl, hx1⟩; replace hq := hq.trans hx1; clear hx1 z0 z1 z2 z3; obtain ⟨z0, z1, z2, z3⟩ := HS.out _ hq) | (go_at_call 16; refine (HB.out.known _ (HX0.out.trans hq)).mono ?_; rintro e w4 ⟨rfl, hx4⟩))
          go_ret
          exact ⟨rfl, (HX0.out.trans hq).trans hx4⟩
        | true =>
          by_cases h3 : d < 0
          · have t3 : decide (d < 0) = true := by simpa using h3
            go_enter Tryz.func6, Tryz.ntmps6
            go_wp2_with (first | (go_at_call 11; refine (HB.out.slim _ HX0.out).mono ?_; rintro e w1 ⟨rfl, hq⟩; obtain ⟨z0, z1, z2, z3⟩ := HS.out _ hq) | (go_at_call 12; refine (HB.out.book _ (HX0.out.trans hq)).mono ?_; rintro e w1 ⟨rfl, hx1⟩; replace hq := hq.trans hx1; clear hx1 z0 z1 z2 z3; obtain ⟨z0, z1, z2, z3⟩ := HS.out _ hq) | (go_at_call 17; refine (HSH.out _ (HX0.out.trans hq)).mono ?_; rintro e w1 ⟨rfl, hx1⟩; replace hq := hq.trans hx1; clear hx1 z0 z1 z2 z3; obtain ⟨z0, z1, z2, z3⟩ := HS.out _ hq) | (go_at_call 16; refine (HB.out.known _ (HX0.out.trans hq)).mono ?_; rintro e w4 ⟨rfl, hx4⟩))
            go_ret
            exact ⟨rfl, (HX0.out.trans hq).trans hx4⟩
          · have t3 : decide (d < 0) = false := by simpa using h3
            by_cases h4 : s.off < d
            · have t4 : decide (s.off < d) = true := by simpa using h4
              go_enter Tryz.func6, Tryz.ntmps6
              go_wp2_with (first | (go_at_call 11; refine (HB.out.slim _ HX0.out).mono ?_; rintro e w1 ⟨rfl, hq⟩; obtain ⟨z0, z1, z2, z3⟩ := HS.out _ hq) | (go_at_call 12; refine (HB.out.book _ (HX0.out.trans hq)).mono ?_; rintro e w1 ⟨rfl, hx1⟩; replace hq := hq.trans hx1; clear hx1 z0 z1 z2 z3; obtain ⟨z0, z1, z2, z3⟩ := HS.out _ hq) | (go_at_call 17; refine (HSH.out _ (HX0.out.trans hq)).mono ?_; rintro e w1 ⟨rfl, hx1⟩; replace hq := hq.trans hx1; clear hx1 z0 z1 z2 z3; obtain ⟨z0, z1, z2, z3⟩ := HS.out _ hq) | (go_at_call 16; refine (HB.out.known _ (HX0.out.trans hq)).mono ?_; rintro e w4 ⟨rfl, hx4⟩))
              go_ret
              exact ⟨rfl, (HX0.out.trans hq).trans hx4⟩
            · have t4 : decide (s.off < d) = false := by simpa using h4
              have hB := bookB_of h1
              have hS := shellB_of h2
              have h0 : 0 ≤ d := by omega
              have h5 : d ≤ s.off := by omega
              have hoff := hS.off
              have hoff1 := hoff.1
              have hoff2 := hoff.2
              have hla := lessS_B hS h0 h5
              have harg : couldArg b s = true := by unfold couldArg; rw [h1, h2]; rfl
              have hcl := could_len hB hS
              have hcm := could_len hB hla
              have hml := could_less hB hS h0 h5
              have hargm : couldArg b (lessS s d) = true := by unfold couldArg; rw [h1]; unfold isShellB lessS; have := h2; unfold isShellB at this; simp only [Bool.and_eq_true, inB_iff] at this ⊢; first | exact ⟨rfl, ⟨this.1.1, by omega⟩, this.2⟩ | (refine ⟨?_, ?_⟩ <;> simp_all <;> omega)
              have HWL := Lib.hid (fun (hne : couldOf b (oneOf (lessS s d)) 0 ≠ []) => word_less (b := b) hml hne)
              have HC := Lib.hid (fun w1 (h : Ext w w1) => Could_ok (HBB.out w1 h) (HSS.out w1 h) harg)
              have HW := Lib.hid (fun w1 (h : Ext w w1) => Word_ok (HBB.out w1 h) (HSS.out w1 h) harg)
              have HCM := Lib.hid (fun w1 (h : Ext w w1) => Could_ok (sv := .agg #[.slice ga s.rings.length gc, .int .i64 (s.off - d)]) (s := lessS s d) (HBB.out w1 h) ⟨_, rfl, HG.out w1 h⟩ hargm)
              have HWM := Lib.hid (fun w1 (h : Ext w w1) => Word_ok (sv := .agg #[.slice ga s.rings.length gc, .int .i64 (s.off - d)]) (s := lessS s d) (HBB.out w1 h) ⟨_, rfl, HG.out w1 h⟩ hargm)
              clear hB hS harg hargm hla hoff
              generalize couldOf b (oneOf s) 0 = cl at *
              generalize couldOf b (oneOf (lessS s d)) 0 = cm at *
              have HML := Lib.hid hml
              clear hml
              go_enter Tryz.func6, Tryz.ntmps6
              go_upto_region 4 with (first | (go_at_call 11; refine (HB.out.slim _ HX0.out).mono ?_; rintro e w1 ⟨rfl, hq⟩; obtain ⟨z0, z1, z2, z3⟩ := HS.out _ hq) | (go_at_call 12; refine (HB.out.book _ (HX0.out.trans hq)).mono ?_; rintro e w1 ⟨rfl, hx1⟩; replace hq := hq.trans hx1; clear hx1 z0 z1 z2 z3; obtain ⟨z0, z1, z2, z3⟩ := HS.out _ hq) | (go_at_call 17; refine (HSH.out _ (HX0.out.trans hq)).mono ?_; rintro e w1 ⟨rfl, hx1⟩; replace hq := hq.trans hx1; clear hx1 z0 z1 z2 z3; obtain ⟨z0, z1, z2, z3⟩ := HS.out _ hq))
              have hq5 := hq.alloc (.cells #[.slice ga s.rings.length gc, .int .i64 s.off] 45)
              clear z0 z1 z2 z3
              obtain ⟨z0, z1, z2, z3⟩ := HS.out _ hq5
              go_upto_region 5 with fail
              have HX6 := Lib.hid (HX0.out.trans (hq.alloc (.cells #[.slice ga s.rings.length gc, .int .i64 (s.off - d)] 45)))
              have HT := Lib.hid (fun W (h : Ext (w1.alloc (.cells #[.slice ga s.rings.length gc, .int .i64 (s.off - d)] 45)) W) => (⟨HS.out _ ((hq.alloc _).trans h), h.cell (by go_simp), h.cell (by go_simp)⟩ : (W.cell? ⟨w.heap.size, 0, none⟩ = some (.int .i64 b.years) ∧ W.cell? ⟨w.heap.size, 1, none⟩ = some (.slice ra b.rivers.length rc) ∧ W.cell? ⟨w.heap.size + 1, 0, none⟩ = some (.slice ga s.rings.length gc) ∧ W.cell? ⟨w.heap.size + 1, 1, none⟩ = some (.int .i64 s.off)) ∧ W.cell? ⟨w1.heap.size, 0, none⟩ = some (.slice ga s.rings.length gc) ∧ W.cell? ⟨w1.heap.size, 1, none⟩ = some (.int .i64 (s.off - d))))
              clear z0 z1 z2 z3 hq5 hq HS HX0
              obtain ⟨⟨z0, z1, z2, z3⟩, z4, z5⟩ := HT.out _ (Ext.refl _)
              go_upto_region 6 with (go_at_call 18; refine (HC.out _ HX6.out).mono ?_; rintro e w2 ⟨la, lc, rfl, hx2, hpl⟩; have HPL := Lib.hid hpl; clear hpl z0 z1 z2 z3 z4 z5; obtain ⟨⟨z0, z1, z2, z3⟩, z4, z5⟩ := HT.out _ hx2)
              go_upto_region 7 with (go_at_call 18; refine (HCM.out _ (HX6.out.trans hx2)).mono ?_; rintro e w3 ⟨ma, mc, rfl, hx3, hpm⟩; have HPM := Lib.hid hpm; clear hpm z0 z1 z2 z3 z4 z5; obtain ⟨⟨z0, z1, z2, z3⟩, z4, z5⟩ := HT.out _ (hx2.trans hx3))
              have HX3 := Lib.hid (HX6.out.trans (hx2.trans hx3))
              have HT3 := Lib.hid (fun W (h : Ext w3 W) => HT.out W ((hx2.trans hx3).trans h))
              have HP3 := Lib.hid (fun W (h : Ext w3 W) => And.intro (HPL.out.ext (hx3.trans h)) (HPM.out.ext h))
              clear HPL HPM hx2 hx3 HT HX6
              go_upto_region 8 with (go_at_call 19; refine (HW.out _ HX3.out).mono ?_; rintro e w4 ⟨rfl, hq⟩; clear z0 z1 z2 z3 z4 z5; obtain ⟨⟨z0, z1, z2, z3⟩, z4, z5⟩ := HT3.out _ hq)
              go_upto_region 9 with (go_at_call 19; refine (HWM.out _ (HX3.out.trans hq)).mono ?_; rintro e w5 ⟨rfl, hx5⟩; replace hq := hq.trans hx5; clear hx5 z0 z1 z2 z3 z4 z5)
              have x30 : decide ((30 : Int) < (cm.length : Int)) = false := by simp; omega
              go_wp2
              go_loopw [16] (fun i wr => ∃ k : Nat, k ≤ cm.length ∧ i = .int .i64 k ∧ Ext w3 wr) (fun i _ => cm.length - (intOf i).toNat)
              case atStart => exact ⟨0, Nat.zero_le _, rfl, hq⟩
              case round =>
                clear hq
                obtain ⟨k, hk, rfl, hq⟩ := hrel
                obtain ⟨hpl, hpm⟩ := HP3.out _ hq
                by_cases hlt : k < cm.length
                · have x2 : decide ((k : Int) < (cm.length : Int)) = true := by simpa using hlt
                  have HPL := Lib.hid hpl
                  obtain ⟨a', c', he, _, _, H3⟩ := hpm.open
                  injection he with e1 e2 e3
                  subst e1 e3
                  obtain ⟨bb, f, x, rfl, hxk, c0, c1⟩ := H3 k hlt
                  have i1 : (0 : Int) ≤ (k : Int) := by omega
                  have i2 : (k : Int) < (cm.length : Int) := by omega
                  have HIN := Lib.hid (HML.out x (List.mem_of_getElem? hxk.out))
                  obtain ⟨x1, y1⟩ := x
                  simp only at c0 c1
                  clear hpl hpm H3 hxk e2
                  go_wp2_with (go_at_call 20; refine (has_yes (o := (x1, y1)) HPL.out (by omega) HIN.out).mono ?_; rintro e w6 ⟨rfl, hx6⟩)
                  go_roundw
                  case rel => exact ⟨k + 1, by omega, by go_num, hq.trans hx6⟩
                  case measure => simp [intOf]; omega
                · have x2 : decide ((k : Int) < (cm.length : Int)) = false := by simp; omega
                  clear hpl hpm
                  have A_K := HX3.out.trans hq
                  by_cases hz : cm.length = 0
                  · have x3 : ((cm.length : Int) == 0) = true := by simpa using hz
                    have x4 : (wordOf b cm == 1) = true := by rw [List.eq_nil_of_length_eq_zero hz, word_nil]; rfl
                    clear hz
                    go_wp2_with (go_at_call 16; refine (HB.out.known _ A_K).mono ?_; rintro e w4 ⟨rfl, hx4⟩)
                    go_ret
                    exact ⟨rfl, A_K.trans hx4⟩
                  · have x3 : ((cm.length : Int) == 0) = false := by simpa using hz
                    have hw := HWL.out (fun h => hz (by rw [h]; rfl))
                    clear hz
                    by_cases h2 : wordOf b cl = 2
                    · have x4 : (wordOf b cl == 2) = true := by rw [h2]; rfl
                      clear hw h2
                      go_wp2_with (go_at_call 16; refine (HB.out.known _ A_K).mono ?_; rintro e w4 ⟨rfl, hx4⟩)
                      go_ret
                      exact ⟨rfl, A_K.trans hx4⟩
                    · have x4 : (wordOf b cl == 2) = false := by simpa using h2
                      have x5 : (wordOf b cm == wordOf b cl) = true := by rcases hw with hw | hw <;> simp_all
                      clear hw h2
                      go_wp2_with (go_at_call 16; refine (HB.out.known _ A_K).mono ?_; rintro e w4 ⟨rfl, hx4⟩)
                      go_ret
                      exact ⟨rfl, A_K.trans hx4⟩
end Go.Proofs.YtabkfohbdfpdpaaGreatDoor
