/- The law RiverCoulds. -/
import Derived.Test.YtnhpibnneidmgaaGreatDoorLawb
import Derived.Test.YtnhpibnneidmgaaGreatDoorRword
namespace Go.Proofs.YtnhpibnneidmgaaGreatDoor
open Go.RowKit
set_option maxRecDepth 100000 in
set_option maxHeartbeats 2000000 in
theorem Check_any (v : Value) (b : Book) (w : World) (hb : BookAt w v b) :
  Calls Tryz.prog 28 #[v] w fun e w' => e = .returned (.int .i64 (if isBookB b then 0 else 2)) ∧ Ext w w' := by
 have HI := Lib.hid (fun w1 (h : Ext w w1) => isBook_any v b w1 (hb.ext h))
 obtain ⟨ra, rc, rfl, _⟩ := hb.slice
 have HX0 := Lib.hid ((Ext.refl w).alloc _ : Ext w (w.alloc (.cells #[.int .i64 b.years, .slice ra b.rivers.length rc] 24)))
 clear hb
 generalize isBookB b = f at HI ⊢
 cases f with
 | false =>
  go_enter Tryz.func28, Tryz.ntmps28
  go_wp2_with (go_at_call 62; refine (HI.out _ HX0.out).mono ?_; rintro e w1 ⟨rfl, hx1⟩)
  go_ret
  exact ⟨rfl, HX0.out.trans hx1⟩
 | true =>
  go_enter Tryz.func28, Tryz.ntmps28
  go_wp2_with (go_at_call 62; refine (HI.out _ HX0.out).mono ?_; rintro e w1 ⟨rfl, hx1⟩)
  go_ret
  exact ⟨rfl, HX0.out.trans hx1⟩
set_option maxRecDepth 100000 in
set_option maxHeartbeats 8000000 in
theorem riverCoulds_any (v : Value) (b : Book) (sv : Value) (s : Shell) (w : World) (hb : BookAt w v b) (hs : ShellAt w sv s) (ht : TabOk w) :
  Calls Tryz.prog 5 #[v, sv] w (TrueP w) := by
 have HB := Lib.hid (LawB.of hb ht)
 have HSH := Lib.hid (fun w1 (h : Ext w w1) => rshell_any sv s w1 (hs.ext h))
 have HCK := Lib.hid (fun w1 (h : Ext w w1) => Check_any v b w1 (hb.ext h))
 have HCO := Lib.hid (fun w1 (h : Ext w w1) => Could_any v sv b s w1 (hb.ext h) (hs.ext h))
 have HWO := Lib.hid (fun w1 (h : Ext w w1) => Word_any v sv b s w1 (hb.ext h) (hs.ext h))
 have HRC := Lib.hid (fun (hB : BookB b) (hS : ShellB s) w1 (h : Ext w w1) => rcould_any v sv b s w1 (hb.ext h) hB (hs.ext h) hS)
 have HRW := Lib.hid (fun (hB : BookB b) (hS : ShellB s) w1 (h : Ext w w1) => rword_any v sv b s w1 (hb.ext h) hB (hs.ext h) hS)
 obtain ⟨ra, rc, rfl, _⟩ := hb.slice
 obtain ⟨gv, rfl, hg⟩ := hs
 obtain ⟨ga, gc, rfl, _⟩ := hg.open
 obtain ⟨W0, hW0⟩ : ∃ W0, W0 = ((w.alloc (.cells #[.int .i64 b.years, .slice ra b.rivers.length rc] 24)).alloc (.cells #[.slice ga s.rings.length gc, .int .i64 s.off] 31)) := ⟨_, rfl⟩
 have HX0 := Lib.hid (show Ext w W0 by rw [hW0]; exact ((Ext.refl w).alloc _).alloc _)
 have HS := Lib.hid (fun W (h : Ext W0 W) => (⟨h.cell (by rw [hW0]; go_simp), h.cell (by rw [hW0]; go_simp), h.cell (by rw [hW0]; go_simp), h.cell (by rw [hW0]; go_simp)⟩ : W.cell? ⟨w.heap.size, 0, none⟩ = some (.int .i64 b.years) ∧ W.cell? ⟨w.heap.size, 1, none⟩ = some (.slice ra b.rivers.length rc) ∧ W.cell? ⟨w.heap.size + 1, 0, none⟩ = some (.slice ga s.rings.length gc) ∧ W.cell? ⟨w.heap.size + 1, 1, none⟩ = some (.int .i64 s.off)))
 clear hb ht hg
 go_enter Tryz.func5, Tryz.ntmps5
 go_upto_region 1 with fail
 rw [← hW0]
 clear hW0
 have hq := Ext.refl W0
 obtain ⟨z0, z1, z2, z3⟩ := HS.out _ hq
 unfold CouldRes WordRes at *
 cases h1 : slimB b with
 | false =>
  have HB1 := Lib.hid (fun w1 (h : Ext w w1) => h1 ▸ HB.out.slim w1 h)
  go_wp2_with (first | (go_at_call 13; refine (HB1.out _ (HX0.out.trans hq)).mono ?_; rintro e w' ⟨rfl, hx1⟩; (try (replace hl := hl.trans hx1)); replace hq := hq.trans hx1; clear hx1 z0 z1 z2 z3; obtain ⟨z0, z1, z2, z3⟩ := HS.out _ hq) | (go_at_call 19; refine (HB.out.known _ (HX0.out.trans hq)).mono ?_; rintro e w' ⟨rfl, hx1⟩; (try (replace hl := hl.trans hx1)); replace hq := hq.trans hx1; clear hx1 z0 z1 z2 z3; obtain ⟨z0, z1, z2, z3⟩ := HS.out _ hq))
  go_ret
  exact ⟨rfl, HX0.out.trans hq⟩
 | true =>
  have HB1 := Lib.hid (fun w1 (h : Ext w w1) => h1 ▸ HB.out.slim w1 h)
  by_cases h7 : 7 < s.rings.length
  ·have t7 : decide ((7 : Int) < (s.rings.length : Int)) = true := by simp; omega
   go_wp2_with (first | (go_at_call 13; refine (HB1.out _ (HX0.out.trans hq)).mono ?_; rintro e w' ⟨rfl, hx1⟩; (try (replace hl := hl.trans hx1)); replace hq := hq.trans hx1; clear hx1 z0 z1 z2 z3; obtain ⟨z0, z1, z2, z3⟩ := HS.out _ hq) | (go_at_call 19; refine (HB.out.known _ (HX0.out.trans hq)).mono ?_; rintro e w' ⟨rfl, hx1⟩; (try (replace hl := hl.trans hx1)); replace hq := hq.trans hx1; clear hx1 z0 z1 z2 z3; obtain ⟨z0, z1, z2, z3⟩ := HS.out _ hq))
   go_ret
   exact ⟨rfl, HX0.out.trans hq⟩
  ·have t7 : decide ((7 : Int) < (s.rings.length : Int)) = false := by simp; omega
   cases h4 : isBookB b with
   | false =>
    have HB2 := Lib.hid (fun w1 (h : Ext w w1) => h4 ▸ HB.out.book w1 h)
    have h5 : couldArg b s = false := by unfold couldArg; rw [h4]; rfl
    rw [h4] at HCK
    rw [h5] at HCO HWO
    clear h1 h4 h5 h7 HRC HRW
    go_wp2_with (first | (go_at_call 13; refine (HB1.out _ (HX0.out.trans hq)).mono ?_; rintro e w' ⟨rfl, hx1⟩; (try (replace hl := hl.trans hx1)); replace hq := hq.trans hx1; clear hx1 z0 z1 z2 z3; obtain ⟨z0, z1, z2, z3⟩ := HS.out _ hq) | (go_at_call 28; refine (HCK.out _ (HX0.out.trans hq)).mono ?_; rintro e w' ⟨rfl, hx1⟩; (try (replace hl := hl.trans hx1)); replace hq := hq.trans hx1; clear hx1 z0 z1 z2 z3; obtain ⟨z0, z1, z2, z3⟩ := HS.out _ hq) | (go_at_call 21; refine (HCO.out _ (HX0.out.trans hq)).mono ?_; rintro e w' ⟨lv, rfl, hx1, hp⟩; obtain ⟨la, lc, rfl, _⟩ := hp.open; have HP := Lib.hid hp; have hl := Ext.refl w'; clear hp; (try (replace hl := hl.trans hx1)); replace hq := hq.trans hx1; clear hx1 z0 z1 z2 z3; obtain ⟨z0, z1, z2, z3⟩ := HS.out _ hq) | (go_at_call 29; refine (HWO.out _ (HX0.out.trans hq)).mono ?_; rintro e w' ⟨rfl, hx1⟩; (try (replace hl := hl.trans hx1)); replace hq := hq.trans hx1; clear hx1 z0 z1 z2 z3; obtain ⟨z0, z1, z2, z3⟩ := HS.out _ hq) | (go_at_call 15; refine (HB2.out _ (HX0.out.trans hq)).mono ?_; rintro e w' ⟨rfl, hx1⟩; (try (replace hl := hl.trans hx1)); replace hq := hq.trans hx1; clear hx1 z0 z1 z2 z3; obtain ⟨z0, z1, z2, z3⟩ := HS.out _ hq) | (go_at_call 19; refine (HB.out.known _ (HX0.out.trans hq)).mono ?_; rintro e w' ⟨rfl, hx1⟩; (try (replace hl := hl.trans hx1)); replace hq := hq.trans hx1; clear hx1 z0 z1 z2 z3; obtain ⟨z0, z1, z2, z3⟩ := HS.out _ hq))
    go_ret
    exact ⟨rfl, HX0.out.trans hq⟩
   | true =>
    have HB2 := Lib.hid (fun w1 (h : Ext w w1) => h4 ▸ HB.out.book w1 h)
    rw [h4] at HCK
    cases h6 : isShellB s with
    | false =>
     have h5 : couldArg b s = false := by unfold couldArg; rw [h4, h6]; rfl
     rw [h6] at HSH
     rw [h5] at HCO HWO
     clear h1 h4 h5 h6 h7 HRC HRW
     go_wp2_with (first | (go_at_call 13; refine (HB1.out _ (HX0.out.trans hq)).mono ?_; rintro e w' ⟨rfl, hx1⟩; (try (replace hl := hl.trans hx1)); replace hq := hq.trans hx1; clear hx1 z0 z1 z2 z3; obtain ⟨z0, z1, z2, z3⟩ := HS.out _ hq) | (go_at_call 28; refine (HCK.out _ (HX0.out.trans hq)).mono ?_; rintro e w' ⟨rfl, hx1⟩; (try (replace hl := hl.trans hx1)); replace hq := hq.trans hx1; clear hx1 z0 z1 z2 z3; obtain ⟨z0, z1, z2, z3⟩ := HS.out _ hq) | (go_at_call 21; refine (HCO.out _ (HX0.out.trans hq)).mono ?_; rintro e w' ⟨lv, rfl, hx1, hp⟩; obtain ⟨la, lc, rfl, _⟩ := hp.open; have HP := Lib.hid hp; have hl := Ext.refl w'; clear hp; (try (replace hl := hl.trans hx1)); replace hq := hq.trans hx1; clear hx1 z0 z1 z2 z3; obtain ⟨z0, z1, z2, z3⟩ := HS.out _ hq) | (go_at_call 29; refine (HWO.out _ (HX0.out.trans hq)).mono ?_; rintro e w' ⟨rfl, hx1⟩; (try (replace hl := hl.trans hx1)); replace hq := hq.trans hx1; clear hx1 z0 z1 z2 z3; obtain ⟨z0, z1, z2, z3⟩ := HS.out _ hq) | (go_at_call 15; refine (HB2.out _ (HX0.out.trans hq)).mono ?_; rintro e w' ⟨rfl, hx1⟩; (try (replace hl := hl.trans hx1)); replace hq := hq.trans hx1; clear hx1 z0 z1 z2 z3; obtain ⟨z0, z1, z2, z3⟩ := HS.out _ hq) | (go_at_call 17; refine (HSH.out _ (HX0.out.trans hq)).mono ?_; rintro e w' ⟨rfl, hx1⟩; (try (replace hl := hl.trans hx1)); replace hq := hq.trans hx1; clear hx1 z0 z1 z2 z3; obtain ⟨z0, z1, z2, z3⟩ := HS.out _ hq) | (go_at_call 19; refine (HB.out.known _ (HX0.out.trans hq)).mono ?_; rintro e w' ⟨rfl, hx1⟩; (try (replace hl := hl.trans hx1)); replace hq := hq.trans hx1; clear hx1 z0 z1 z2 z3; obtain ⟨z0, z1, z2, z3⟩ := HS.out _ hq))
     go_ret
     exact ⟨rfl, HX0.out.trans hq⟩
    | true =>
     have h5 : couldArg b s = true := by unfold couldArg; rw [h4, h6]; rfl
     have hB := bookB_of h4
     have hS := shellB_of h6
     rw [h6] at HSH
     rw [h5] at HCO HWO
     have hco := couldOf_one hB hS
     simp only [hco] at HCO HWO
     replace HRC := Lib.hid (HRC.out hB hS)
     replace HRW := Lib.hid (HRW.out hB hS)
     clear h1 h4 h5 h6 h7 hco hB hS
     generalize (originsOf b s.rings.length).filter (couldOne b s) = L at HCO HWO HRC HRW
     have HSO := Lib.hid (fun va vb w1 (h1 : PairsAt w1 va L) (h2 : PairsAt w1 vb L) => (sameO_any va vb L L w1 h1 h2).mono (R' := fun e w' => e = .returned (.bool true) ∧ Ext w1 w') (fun e w' q => ⟨by rw [q.1, decide_eq_true rfl], q.2⟩))
     generalize wordOf b L = wd at HWO HRW
     go_wp2_with (first | (go_at_call 13; refine (HB1.out _ (HX0.out.trans hq)).mono ?_; rintro e w' ⟨rfl, hx1⟩; (try (replace hl := hl.trans hx1)); replace hq := hq.trans hx1; clear hx1 z0 z1 z2 z3; obtain ⟨z0, z1, z2, z3⟩ := HS.out _ hq) | (go_at_call 28; refine (HCK.out _ (HX0.out.trans hq)).mono ?_; rintro e w' ⟨rfl, hx1⟩; (try (replace hl := hl.trans hx1)); replace hq := hq.trans hx1; clear hx1 z0 z1 z2 z3; obtain ⟨z0, z1, z2, z3⟩ := HS.out _ hq) | (go_at_call 21; refine (HCO.out _ (HX0.out.trans hq)).mono ?_; rintro e w' ⟨lv, rfl, hx1, hp⟩; obtain ⟨la, lc, rfl, _⟩ := hp.open; have HP := Lib.hid hp; have hl := Ext.refl w'; clear hp; (try (replace hl := hl.trans hx1)); replace hq := hq.trans hx1; clear hx1 z0 z1 z2 z3; obtain ⟨z0, z1, z2, z3⟩ := HS.out _ hq) | (go_at_call 29; refine (HWO.out _ (HX0.out.trans hq)).mono ?_; rintro e w' ⟨rfl, hx1⟩; (try (replace hl := hl.trans hx1)); replace hq := hq.trans hx1; clear hx1 z0 z1 z2 z3; obtain ⟨z0, z1, z2, z3⟩ := HS.out _ hq) | (go_at_call 15; refine (HB2.out _ (HX0.out.trans hq)).mono ?_; rintro e w' ⟨rfl, hx1⟩; (try (replace hl := hl.trans hx1)); replace hq := hq.trans hx1; clear hx1 z0 z1 z2 z3; obtain ⟨z0, z1, z2, z3⟩ := HS.out _ hq) | (go_at_call 17; refine (HSH.out _ (HX0.out.trans hq)).mono ?_; rintro e w' ⟨rfl, hx1⟩; (try (replace hl := hl.trans hx1)); replace hq := hq.trans hx1; clear hx1 z0 z1 z2 z3; obtain ⟨z0, z1, z2, z3⟩ := HS.out _ hq) | (go_at_call 30; refine (HRC.out _ (HX0.out.trans hq)).mono ?_; rintro e w' ⟨ru, rfl, hpu, hx1⟩; have HPU := Lib.hid hpu; clear hpu; (try (replace hl := hl.trans hx1)); replace hq := hq.trans hx1; clear hx1 z0 z1 z2 z3; obtain ⟨z0, z1, z2, z3⟩ := HS.out _ hq) | (go_at_call 22; refine (HSO.out _ _ _ (HP.out.ext hl) HPU.out).mono ?_; rintro e w' ⟨rfl, hx1⟩; (try (replace hl := hl.trans hx1)); replace hq := hq.trans hx1; clear hx1 z0 z1 z2 z3; obtain ⟨z0, z1, z2, z3⟩ := HS.out _ hq) | (go_at_call 31; refine (HRW.out _ (HX0.out.trans hq)).mono ?_; rintro e w' ⟨rfl, hx1⟩; (try (replace hl := hl.trans hx1)); replace hq := hq.trans hx1; clear hx1 z0 z1 z2 z3; obtain ⟨z0, z1, z2, z3⟩ := HS.out _ hq) | (go_at_call 19; refine (HB.out.known _ (HX0.out.trans hq)).mono ?_; rintro e w' ⟨rfl, hx1⟩; (try (replace hl := hl.trans hx1)); replace hq := hq.trans hx1; clear hx1 z0 z1 z2 z3; obtain ⟨z0, z1, z2, z3⟩ := HS.out _ hq))
     go_ret
     exact ⟨rfl, HX0.out.trans hq⟩
end Go.Proofs.YtnhpibnneidmgaaGreatDoor
