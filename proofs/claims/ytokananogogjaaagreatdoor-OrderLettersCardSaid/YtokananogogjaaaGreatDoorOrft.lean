/- The reference's Fits. -/
import Derived.Test.YtokananogogjaaaGreatDoorOlf
import Derived.Test.YtokananogogjaaaGreatDoorOrg
import Derived.Test.YtokananogogjaaaGreatDoorRsz
namespace Go.Proofs.YtokananogogjaaaGreatDoor
open Go.RowKit
theorem all_stepR {p : Nat → Bool} {k : Nat} (h : (List.range k).all p = true) (hk : p k = true) : (List.range (k + 1)).all p = true := by
 rw [List.range_succ, List.all_append, h]; simp [hk]
theorem all_notR {p : Nat → Bool} {n k : Nat} (hk : k < n) (h : p k = false) : (List.range n).all p = false := by
 cases hh : (List.range n).all p with
 | false => rfl
 | true => rw [List.all_eq_true] at hh; have := hh k (by simpa using hk); rw [h] at this; cases this
set_option maxRecDepth 100000 in
set_option maxHeartbeats 8000000 in
theorem rfits_any (v tv : Value) (b : Book) (t : List (List Int)) (w : World) (hB : BookB b) (hz : isMeansB b t = true) (hb : BookAt w v b) (ht : TruthAt w tv t) :
 Calls Tryz.prog 10 #[v, tv] w fun e w' => e = .returned (.bool (fitsB b t)) ∧ Ext w w' := by
 obtain ⟨rv, rfl, hr⟩ := ht
 have hb0 := hb
 obtain ⟨ga, gc, ea, ec, rfl, hgl, hel⟩ := hb.open
 obtain ⟨_, _, hv, _, he⟩ := hb0
 cases hv
 obtain ⟨_, _, hev, _, _, he3⟩ := RowOf.open3 (f := entryC) (f0 := fun x => .int .i64 x.1) (f1 := fun x => .int .i64 x.2.1) (f2 := fun x => .int .i64 x.2.2) (fun _ => rfl) he
 cases hev
 obtain ⟨ra, rc, rfl, _, _, r3⟩ := hr.open
 obtain ⟨W, HW⟩ : ∃ W, Hid (W = (w.alloc (bookBox (.slice ga b.goods.length gc) b (.slice ea b.entries.length ec))).alloc (.cells #[.slice ra t.length rc] 31)) := ⟨_, rfl⟩
 have HX0 := Lib.hid (show Ext w W by rw [HW.out]; exact ((Ext.refl w).alloc _).alloc _)
 have HF := Lib.hid (fun W1 (h : Ext W W1) => (And.intro (h.cell (show W.cell? ⟨w.heap.size + 1, 0, none⟩ = some (.slice ra t.length rc) by rw [HW.out]; go_simp)) (BoxAt.ext (show BoxAt W w.heap.size (.slice ga b.goods.length gc) b (.slice ea b.entries.length ec) by rw [HW.out]; exact (BoxAt.new _ _ _ _).ext ((Ext.refl _).alloc _)) h)))
 unfold isMeansB at hz
 rw [Bool.and_eq_true, decide_eq_true_eq, Bool.not_eq_true', List.any_eq_false] at hz
 obtain ⟨htl, hrows⟩ := hz
 have HROW : Hid (∀ l, l ∈ t → l.length = b.goods.length) := fun l hl => by
  have h := hrows l hl
  unfold badRow at h
  rw [Bool.or_eq_true, not_or] at h
  have h2 := h.1
  rw [decide_eq_true_eq] at h2
  have h3 := Decidable.not_not.1 h2
  omega
 have HFR := Lib.hid (fits_ref hB htl)
 have HTL := Lib.hid htl
 have HR3 := Lib.hid r3
 have HE3 := Lib.hid he3
 have HEN := Lib.hid hB.entries
 have he3' := hB.e3
 have ht3 : t.length ≤ 3 := by omega
 have hm0 := hB.m0
 have hm5 := hB.m5
 clear hb he he3 hr r3 hB hrows htl he3'
 go_enter Tryz.func10, Tryz.ntmps10
 go_upto_region 1 with fail
 rw [← HW.out]
 go_wp2
 go_loopw [5] (fun i wr => ∃ k : Nat, k ≤ t.length ∧ i = .int .i64 (k : Int) ∧ Hid ((List.range k).all (goesB b t) = true) ∧ Ext W wr) (fun i _ => t.length - (intOf i).toNat)
 case atStart => exact ⟨0, Nat.zero_le _, rfl, by simp [Hid], Ext.refl _⟩
 case round =>
  obtain ⟨k, hk, rfl, hall, hx⟩ := hrel
  obtain ⟨wk, rfl⟩ : ∃ wk : World, wk = wr := ⟨_, rfl⟩
  obtain ⟨m0, b0, b1, b2, b3⟩ := HF.out _ hx
  have HALL := Lib.hid hall.out
  have HX := Lib.hid hx
  clear hall
  by_cases hlt : k < t.length
  ·have x1 : decide ((k : Int) < b.editions) = true := by rw [← HTL.out]; simpa using hlt
   have k1 : (0 : Int) ≤ (k : Int) := by omega
   have k2 : (k : Int) < (t.length : Int) := by omega
   obtain ⟨rb, ro, l, la, lc, rfl, hlk, d0, hli, _, _⟩ := HR3.out k hlt
   have hgl2 : t.getD k [] = l := by rw [List.getD_eq_getElem?_getD, hlk.out]; rfl
   have hll := HROW.out l (List.mem_of_getElem? hlk.out)
   have HON := Lib.hid (fun W1 (h : Ext wk W1) => ronce_any (.slice la l.length lc) l W1 (hli.ext (HX0.out.trans (hx.trans h))))
   have HCC := Lib.hid (fun W1 (h : Ext wk W1) => And.intro (HF.out W1 (hx.trans h)) ((HX0.out.trans (hx.trans h)).cell d0))
   cases hn : nodupB l with
   | false =>
    rw [hn] at HON
    have HR : Hid (fitsB b t = false) := by unfold Hid; rw [HFR.out, all_notR hlt (by unfold goesB; rw [hgl2, hn]; rfl)]; rfl
    clear hlk d0 hli hgl2 hll hn hx m0 b0 b2 b3
    go_upto_region 4 with fail
    refine region_reads (C := fun W => Ext wk W) (by kernel_rfl) (by kernel_rfl) ((Ext.refl wk).drew) ?_
    repeat (first | go_big_quiet_skip | (go_big_quiet_want; go_big_quiet_op; first | go_big_quiet_on | (refine ⟨_, fun W hW => rfl, ?_⟩; go_big_quiet_on)) | (go_big_quiet_want; refine ⟨?_, fun W hW => ?_, ?_⟩; rotate_left; (· (obtain ⟨⟨m0, b0, b1, b2, b3⟩, e0⟩ := HCC.out W hW; go_simp; (first | with_reducible rfl | (go_at_call 27; refine (HON.out W hW).mono ?_; rintro e w' ⟨rfl, hx9⟩; constructor; with_reducible rfl; exact hW.trans hx9)))); (try simp only [Act.put, yA, yB, yC]); go_big_quiet_on))
    refine wpQuiet_nil ?_
    intro wq hq
    go_wp2
    go_ret
    exact ⟨by rw [HR.out] <;> rfl, HX0.out.trans (HX.out.trans hq)⟩
   | true =>
    rw [hn] at HON
    by_cases hk0 : k = 0
    ·have x2 : decide (0 < (k : Int)) = false := by simp; omega
     have x3 : decide (0 < k) = false := by simp; omega
     have HN : Hid ((List.range (k + 1)).all (goesB b t) = true) := all_stepR HALL.out (by unfold goesB; rw [hgl2, hn, decide_eq_true hk0]; rfl)
     clear hlk d0 hli hgl2 hll hn hx hk0 m0 b0 b2 b3
     go_upto_region 4 with fail
     refine region_reads (C := fun W => Ext wk W) (by kernel_rfl) (by kernel_rfl) ((Ext.refl wk).drew) ?_
     repeat (first | go_big_quiet_skip | (go_big_quiet_want; go_big_quiet_op; first | go_big_quiet_on | (refine ⟨_, fun W hW => rfl, ?_⟩; go_big_quiet_on)) | (go_big_quiet_want; refine ⟨?_, fun W hW => ?_, ?_⟩; rotate_left; (· (obtain ⟨⟨m0, b0, b1, b2, b3⟩, e0⟩ := HCC.out W hW; go_simp; (first | with_reducible rfl | (go_at_call 27; refine (HON.out W hW).mono ?_; rintro e w' ⟨rfl, hx9⟩; constructor; with_reducible rfl; exact hW.trans hx9)))); (try simp only [Act.put, yA, yB, yC]); go_big_quiet_on))
     refine wpQuiet_nil ?_
     intro wq hq
     go_wp2
     exact ⟨⟨k + 1, by omega, by go_num, HN.out, HX.out.trans hq⟩, by simp [intOf]; omega⟩
    ·obtain ⟨e, hek⟩ : ∃ e, k = e + 1 := ⟨k - 1, by omega⟩
     have x2 : decide (0 < (k : Int)) = true := by simp; omega
     have x3 : decide (0 < k) = true := by simp; omega
     have j1 : IntKind.i64.wrap ((k : Int) - 1) = (e : Int) := by rw [IntWalk.i64_in _ (by omega)]; omega
     have j2 : (0 : Int) ≤ (e : Int) := by omega
     have j3 : (e : Int) < (t.length : Int) := by omega
     obtain ⟨_, _, p, pa, pc, hre, hpk, d1, hpi, _, _⟩ := HR3.out e (by omega)
     cases hre
     have hgp : t.getD (k - 1) [] = p := by rw [show k - 1 = e by omega, List.getD_eq_getElem?_getD, hpk.out]; rfl
     have hpl := HROW.out p (List.mem_of_getElem? hpk.out)
     have HMV := Lib.hid (fun W1 (h : Ext wk W1) => rmoved_any (.slice pa p.length pc) (.slice la l.length lc) p l W1 (hpi.ext (HX0.out.trans (hx.trans h))) (hli.ext (HX0.out.trans (hx.trans h))) (by rw [hll, hpl]))
     replace HCC := Lib.hid (fun W1 (h : Ext wk W1) => And.intro (HF.out W1 (hx.trans h)) (And.intro ((HX0.out.trans (hx.trans h)).cell d0) ((HX0.out.trans (hx.trans h)).cell d1)))
     by_cases hm : movedL p l ≤ b.moves
     ·have x4 : decide (b.moves < movedL p l) = false := by simp; omega
      have HN : Hid ((List.range (k + 1)).all (goesB b t) = true) := all_stepR HALL.out (by unfold goesB; rw [hgl2, hgp, hn, decide_eq_true hm]; simp)
      clear hlk d0 hli hgl2 hll hn hx hk0 hek hpk d1 hpi hgp hpl hm m0 b0 b2 b3
      go_upto_region 4 with fail
      refine region_reads (C := fun W => Ext wk W) (by kernel_rfl) (by kernel_rfl) ((Ext.refl wk).drew) ?_
      repeat (first | go_big_quiet_skip | (go_big_quiet_want; go_big_quiet_op; first | go_big_quiet_on | (refine ⟨_, fun W hW => rfl, ?_⟩; go_big_quiet_on)) | (go_big_quiet_want; refine ⟨?_, fun W hW => ?_, ?_⟩; rotate_left; (· (obtain ⟨⟨m0, b0, b1, b2, b3⟩, e0, e1⟩ := HCC.out W hW; go_simp; (first | with_reducible rfl | (go_at_call 27; refine (HON.out W hW).mono ?_; rintro e w' ⟨rfl, hx9⟩; constructor; with_reducible rfl; exact hW.trans hx9) | (go_at_call 28; refine (HMV.out W hW).mono ?_; rintro e w' ⟨rfl, hx9⟩; constructor; with_reducible rfl; exact hW.trans hx9)))); (try simp only [Act.put, yA, yB, yC]); go_big_quiet_on))
      refine wpQuiet_nil ?_
      intro wq hq
      go_wp2
      exact ⟨⟨k + 1, by omega, by go_num, HN.out, HX.out.trans hq⟩, by simp [intOf]; omega⟩
     ·have x4 : decide (b.moves < movedL p l) = true := by simp; omega
      have HR : Hid (fitsB b t = false) := by unfold Hid; rw [HFR.out, all_notR hlt (by unfold goesB; rw [hgl2, hgp, hn, decide_eq_false hm, decide_eq_false hk0]; rfl)]; rfl
      clear hlk d0 hli hgl2 hll hn hx hk0 hek hpk d1 hpi hgp hpl hm m0 b0 b2 b3
      go_upto_region 4 with fail
      refine region_reads (C := fun W => Ext wk W) (by kernel_rfl) (by kernel_rfl) ((Ext.refl wk).drew) ?_
      repeat (first | go_big_quiet_skip | (go_big_quiet_want; go_big_quiet_op; first | go_big_quiet_on | (refine ⟨_, fun W hW => rfl, ?_⟩; go_big_quiet_on)) | (go_big_quiet_want; refine ⟨?_, fun W hW => ?_, ?_⟩; rotate_left; (· (obtain ⟨⟨m0, b0, b1, b2, b3⟩, e0, e1⟩ := HCC.out W hW; go_simp; (first | with_reducible rfl | (go_at_call 27; refine (HON.out W hW).mono ?_; rintro e w' ⟨rfl, hx9⟩; constructor; with_reducible rfl; exact hW.trans hx9) | (go_at_call 28; refine (HMV.out W hW).mono ?_; rintro e w' ⟨rfl, hx9⟩; constructor; with_reducible rfl; exact hW.trans hx9)))); (try simp only [Act.put, yA, yB, yC]); go_big_quiet_on))
      refine wpQuiet_nil ?_
      intro wq hq
      go_wp2
      go_ret
      exact ⟨by rw [HR.out] <;> rfl, HX0.out.trans (HX.out.trans hq)⟩
  ·have x1 : decide ((k : Int) < b.editions) = false := by rw [← HTL.out]; simpa using hlt
   have hke : k = t.length := by omega
   have HALT : Hid ((List.range t.length).all (goesB b t) = true) := by unfold Hid; rw [← hke]; exact HALL.out
   clear hke hlt
   go_wp2
   clear m0 b0 b1 b2 b3 hx
   go_loopw [6] (fun i wr => ∃ k : Nat, k ≤ b.entries.length ∧ i = .int .i64 (k : Int) ∧ Hid ((b.entries.take k).any (liesB t) = false) ∧ Ext W wr) (fun i _ => b.entries.length - (intOf i).toNat)
   case atStart => exact ⟨0, Nat.zero_le _, rfl, by simp [Hid], HX.out⟩
   case round =>
    obtain ⟨k, hk, rfl, ha, hx⟩ := hrel
    obtain ⟨m0, b0, b1, b2, b3⟩ := HF.out _ hx
    by_cases hle : k < b.entries.length
    ·obtain ⟨bb, o, x, rfl, hxk, q0, q1, q2⟩ := HE3.out k hle
     have d0 := (HX0.out.trans hx).cell q0
     have d1 := (HX0.out.trans hx).cell q1
     have d2 := (HX0.out.trans hx).cell q2
     have k1 : (0 : Int) ≤ (k : Int) := by omega
     have k2 : (k : Int) < (b.entries.length : Int) := by omega
     have x3 : decide ((k : Int) < (b.entries.length : Int)) = true := by simpa using hle
     have hen := HEN.out x (List.mem_of_getElem? hxk.out)
     obtain ⟨xe, xn, xg⟩ := x
     simp only at hen d0 d1 d2 q0 q1 q2
     have htl := HTL.out
     obtain ⟨N, hN⟩ : ∃ N : Nat, xn = (N : Int) := ⟨xn.toNat, by omega⟩
     subst hN
     obtain ⟨F, hF⟩ : ∃ F : Nat, xe = (F : Int) := ⟨xe.toNat, by omega⟩
     subst hF
     obtain ⟨rb, ro, l, la, lc, rfl, hlk, r0, hli, _, _⟩ := HR3.out F (by omega)
     obtain ⟨_, _, hve, _, _, l3⟩ := hli.open
     cases hve
     have hll := HROW.out l (List.mem_of_getElem? hlk.out)
     obtain ⟨yb, yo, y, rfl, hyn, s0⟩ := l3 N (by omega)
     have n1 : (0 : Int) ≤ (N : Int) := by omega
     have n2 : (N : Int) < (l.length : Int) := by omega
     have n3 : (0 : Int) ≤ (F : Int) := by omega
     have n4 : (F : Int) < (t.length : Int) := by omega
     have r1 := (HX0.out.trans hx).cell r0
     have s1 := (HX0.out.trans hx).cell s0
     go_upto_region 10 with fail
     obtain ⟨wa, hwa⟩ : ∃ wa : World, wa = wr.alloc (.cells #[.int .i64 (F : Int), .int .i64 (N : Int), .int .i64 xg] 64) := ⟨_, rfl⟩
     have hxa : Ext wr wa := by rw [hwa]; exact (Ext.refl _).alloc _
     have HCC := Lib.hid (fun W1 (h : Ext wa W1) => (⟨h.cell (by rw [hwa]; go_simp), h.cell (by rw [hwa]; go_simp), h.cell (by rw [hwa]; go_simp), (HF.out _ (hx.trans (hxa.trans h))).1, (hxa.trans h).cell r1, (hxa.trans h).cell s1⟩ : W1.cell? ⟨wr.heap.size, 0, none⟩ = some (.int .i64 (F : Int)) ∧ W1.cell? ⟨wr.heap.size, 1, none⟩ = some (.int .i64 (N : Int)) ∧ W1.cell? ⟨wr.heap.size, 2, none⟩ = some (.int .i64 xg) ∧ W1.cell? ⟨w.heap.size + 1, 0, none⟩ = some (.slice (some ⟨rb, ro, none⟩) t.length rc) ∧ W1.cell? ⟨rb, ro + F, none⟩ = some (.slice (some ⟨yb, yo, none⟩) l.length lc) ∧ W1.cell? ⟨yb, yo + N, none⟩ = some (.int .i64 y)))
     rw [← hwa]
     have HXA := Lib.hid (HX0.out.trans (hx.trans hxa))
     have HXB := Lib.hid (hx.trans hxa)
     have HLI : Hid (liesB t ((F : Int), (N : Int), xg) = (y != xg)) := by
      unfold Hid liesB
      simp only [Int.toNat_natCast]
      rw [show t.getD F [] = l by rw [List.getD_eq_getElem?_getD, hlk.out]; rfl, List.getD_eq_getElem?_getD, hyn.out]; rfl
     clear hwa d0 d1 d2 q0 q1 q2 m0 b0 b1 b2 b3 hx hxa r0 r1 s0 s1 hyn hlk hli l3 hll hen htl HE3 HR3
     by_cases h2 : y = xg
     ·subst h2
      have HT := Lib.hid (any_take hxk.out ha.out (by rw [HLI.out]; simp))
      clear ha hxk
      refine region_reads (C := fun W => Ext wa W) (by kernel_rfl) (by kernel_rfl) ((Ext.refl wa).drew) ?_
      repeat (first | go_big_quiet_skip | (go_big_quiet_want; go_big_quiet_op; first | go_big_quiet_on | (refine ⟨_, fun W hW => rfl, ?_⟩; go_big_quiet_on)) | (go_big_quiet_want; refine ⟨?_, fun W hW => ?_, ?_⟩; rotate_left; (· (obtain ⟨c0, c1, c2, c3, c4, c5⟩ := HCC.out W hW; go_simp; (first | with_reducible rfl))); (try simp only [Act.put, yA, yB, yC]); go_big_quiet_on))
      refine wpQuiet_nil ?_
      intro wq hq
      go_wp2
      exact ⟨⟨k + 1, by omega, by go_num, HT.out, HXB.out.trans hq⟩, by simp [intOf]; omega⟩
     ·have y2 : (y != xg) = true := by simpa using h2
      have y3 : decide (y = xg) = false := by simpa using h2
      have y4 : (y == xg) = false := by simpa using h2
      have HR : Hid (fitsB b t = false) := by unfold Hid; rw [HFR.out, any_at hxk.out (by rw [HLI.out, y2])]; simp
      clear ha hxk h2
      refine region_reads (C := fun W => Ext wa W) (by kernel_rfl) (by kernel_rfl) ((Ext.refl wa).drew) ?_
      repeat (first | go_big_quiet_skip | (go_big_quiet_want; go_big_quiet_op; first | go_big_quiet_on | (refine ⟨_, fun W hW => rfl, ?_⟩; go_big_quiet_on)) | (go_big_quiet_want; refine ⟨?_, fun W hW => ?_, ?_⟩; rotate_left; (· (obtain ⟨c0, c1, c2, c3, c4, c5⟩ := HCC.out W hW; go_simp; (first | with_reducible rfl))); (try simp only [Act.put, yA, yB, yC]); go_big_quiet_on))
      refine wpQuiet_nil ?_
      intro wq hq
      go_wp2
      go_ret
      exact ⟨by rw [HR.out] <;> rfl, HXA.out.trans hq⟩
    ·have x3 : decide ((k : Int) < (b.entries.length : Int)) = false := by simpa using hle
     have HR : Hid (fitsB b t = true) := by
      unfold Hid
      have h := ha.out
      rw [List.take_of_length_le (by omega)] at h
      rw [HFR.out, HALT.out, h]; rfl
     have HX2 := Lib.hid (HX0.out.trans hx)
     clear ha hx
     go_wp2
     go_ret
     exact ⟨by rw [HR.out] <;> rfl, HX2.out⟩
end Go.Proofs.YtokananogogjaaaGreatDoor
