/- The law's rising, rest. -/
import Derived.Test.YtokananogogjaaaGreatDoorLieq
import Derived.Test.YtokananogogjaaaGreatDoorRefq
import Derived.Test.YtokananogogjaaaGreatDoorOpr
import Derived.Test.YtokananogogjaaaGreatDoorRbk
import Derived.Test.YtokananogogjaaaGreatDoorOkn
import Derived.Test.YtokananogogjaaaGreatDoorOdd
namespace Go.Proofs.YtokananogogjaaaGreatDoor
open Go.RowKit
def riseOk (n : Nat) (l : List Int) (k : Nat) : Bool := !decide (l.getD k 0 < 0) && !decide ((n : Int) ≤ l.getD k 0) && (decide (k = 0) || !decide (l.getD k 0 ≤ l.getD (k - 1) 0))
def risingB (n : Nat) (l : List Int) : Bool := (List.range l.length).all (riseOk n l)
theorem rise_step {p : Nat → Bool} {k : Nat} (h : (List.range k).all p = true) (hk : p k = true) : (List.range (k + 1)).all p = true := by
 rw [List.range_succ, List.all_append, h]; simp [hk]
theorem rise_not {p : Nat → Bool} {n k : Nat} (hk : k < n) (h : p k = false) : (List.range n).all p = false := by
 cases hh : (List.range n).all p with
 | false => rfl
 | true => rw [List.all_eq_true] at hh; have := hh k (by simpa using hk); rw [h] at this; cases this
theorem rising_iff {n : Nat} {l : List Int} : risingB n l = true ↔ Rising n l := by
 have hget : ∀ k (h : k < l.length), l.getD k 0 = l[k] := fun k h => by rw [List.getD_eq_getElem?_getD, List.getElem?_eq_getElem h]; rfl
 unfold risingB Rising
 rw [List.all_eq_true]
 constructor
 ·intro h
  have h1 : ∀ k (hk : k < l.length), 0 ≤ l[k] ∧ l[k] < n ∧ (k = 0 ∨ l.getD (k - 1) 0 < l[k]) := fun k hk => by
   have h2 := h k (by simpa using hk)
   unfold riseOk at h2
   simp only [Bool.and_eq_true, Bool.not_eq_true', Bool.or_eq_true, decide_eq_true_eq, decide_eq_false_iff_not, hget k hk] at h2
   omega
  refine ⟨?_, fun y hy => ?_⟩
  ·rw [List.pairwise_iff_getElem]
   intro i j hi hj hij
   induction j with
   | zero => omega
   | succ j ih =>
    have h3 := h1 (j + 1) hj
    rw [Nat.add_sub_cancel, hget j (by omega)] at h3
    rcases Nat.lt_or_ge i j with h4 | h4
    ·have := ih (by omega) h4
     omega
    ·obtain rfl : i = j := by omega
     omega
  ·obtain ⟨k, hk, rfl⟩ := List.getElem_of_mem hy
   have := h1 k hk
   omega
 ·rintro ⟨h1, h2⟩ k hk
  have hk2 : k < l.length := by simpa using hk
  have h3 := h2 l[k] (List.getElem_mem hk2)
  unfold riseOk
  simp only [Bool.and_eq_true, Bool.not_eq_true', Bool.or_eq_true, decide_eq_true_eq, decide_eq_false_iff_not, hget k hk2]
  refine ⟨⟨by omega, by omega⟩, ?_⟩
  rcases Nat.eq_zero_or_pos k with h0 | h0
  ·exact .inl h0
  ·right
   rw [hget (k - 1) (by omega)]
   have := List.pairwise_iff_getElem.1 h1 (k - 1) k (by omega) hk2 (by omega)
   omega
set_option maxRecDepth 100000 in
set_option maxHeartbeats 8000000 in
theorem lrising_any (xv v : Value) (x : Buyer) (l : List Int) (w : World) (hx : BuyerAt w xv x) (hv : IntsAt w v l) :
 Calls Tryz.prog 20 #[xv, v] w fun e w' => e = .returned (.bool (risingB x.letters.length l)) ∧ Ext w w' := by
 obtain ⟨la, lc, rfl, hl1, hl2, _⟩ := hx.open
 obtain ⟨va, vc, rfl, hv1, hv2, hv3⟩ := hv.open
 obtain ⟨W, HW⟩ : ∃ W, Hid (W = w.alloc (.cells #[.int .i64 x.editions, .slice la x.letters.length lc] 28)) := ⟨_, rfl⟩
 have HX0 := Lib.hid (show Ext w W by rw [HW.out]; exact (Ext.refl w).alloc _)
 have HF := Lib.hid (fun W1 (h : Ext W W1) => h.cell (show W.cell? ⟨w.heap.size, 1, none⟩ = some (.slice la x.letters.length lc) by rw [HW.out]; go_simp))
 have HV3 := Lib.hid hv3
 have HVL := Lib.hid (show l.length ≤ 9223372036854775807 by omega)
 have hxl : x.letters.length ≤ 9223372036854775807 := by omega
 generalize hn : x.letters.length = n at *
 have HVB := Lib.hid hxl
 clear hx hv hv3 hl1 hl2 hv1 hv2 hn hxl
 go_enter Tryz.func20, Tryz.ntmps20
 go_upto_region 1 with fail
 rw [← HW.out]
 go_wp2
 go_loopw [5] (fun i wr => ∃ k : Nat, k ≤ l.length ∧ i = .int .i64 (k : Int) ∧ Hid ((List.range k).all (riseOk n l) = true) ∧ Ext W wr) (fun i _ => l.length - (intOf i).toNat)
 case atStart => exact ⟨0, Nat.zero_le _, rfl, by simp [Hid], Ext.refl _⟩
 case round =>
  obtain ⟨k, hk, rfl, ha, hx⟩ := hrel
  obtain ⟨wk, rfl⟩ : ∃ wk : World, wk = wr := ⟨_, rfl⟩
  have HA := Lib.hid ha.out
  have HX := Lib.hid hx
  have hvl := HVL.out
  clear ha
  by_cases hlt : k < l.length
  ·have x1 : decide ((k : Int) < (l.length : Int)) = true := by simpa using hlt
   have x2 : decide (k < l.length) = true := by simpa using hlt
   have k1 : (0 : Int) ≤ (k : Int) := by omega
   have k2 : (k : Int) < (l.length : Int) := by omega
   obtain ⟨vb, vo, y, rfl, hyk, d0⟩ := HV3.out k hlt
   have hgy : l.getD k 0 = y := by rw [List.getD_eq_getElem?_getD, hyk.out]; rfl
   have HCC := Lib.hid (fun W1 (h : Ext wk W1) => And.intro (HF.out W1 (hx.trans h)) ((HX0.out.trans (hx.trans h)).cell d0))
   have HNO : ∀ h : riseOk n l k = false, Hid (risingB n l = false) := fun h => rise_not hlt h
   have HYES : ∀ h : riseOk n l k = true, Hid ((List.range (k + 1)).all (riseOk n l) = true) := fun h => rise_step HA.out h
   clear HF d0 hx
   cases i1 : decide (y < 0) with
   | true =>
    have HR := HNO (by unfold riseOk; rw [hgy, i1]; rfl)
    clear HNO HYES hgy hyk
    go_upto_region 4 with fail
    refine region_reads (C := fun W1 => Ext wk W1) (by kernel_rfl) (by kernel_rfl) ((Ext.refl wk).drew) ?_
    repeat (first | go_big_quiet_skip | (go_big_quiet_want; go_big_quiet_op; first | go_big_quiet_on | (refine ⟨_, fun W hW => rfl, ?_⟩; go_big_quiet_on)) | (go_big_quiet_want; refine ⟨?_, fun W hW => ?_, ?_⟩; rotate_left; (· (obtain ⟨c0, e0⟩ := HCC.out W hW; go_simp; with_reducible rfl)); (try simp only [Act.put, yA, yB, yC]); go_big_quiet_on))
    refine wpQuiet_nil ?_
    intro wq hq
    go_wp2
    go_ret
    exact ⟨by rw [HR.out] <;> rfl, HX0.out.trans (HX.out.trans hq)⟩
   | false =>
    cases i2 : decide ((n : Int) ≤ y) with
    | true =>
     have HR := HNO (by unfold riseOk; rw [hgy, i1, i2]; rfl)
     clear HNO HYES hgy hyk
     go_upto_region 4 with fail
     refine region_reads (C := fun W1 => Ext wk W1) (by kernel_rfl) (by kernel_rfl) ((Ext.refl wk).drew) ?_
     repeat (first | go_big_quiet_skip | (go_big_quiet_want; go_big_quiet_op; first | go_big_quiet_on | (refine ⟨_, fun W hW => rfl, ?_⟩; go_big_quiet_on)) | (go_big_quiet_want; refine ⟨?_, fun W hW => ?_, ?_⟩; rotate_left; (· (obtain ⟨c0, e0⟩ := HCC.out W hW; go_simp; with_reducible rfl)); (try simp only [Act.put, yA, yB, yC]); go_big_quiet_on))
     refine wpQuiet_nil ?_
     intro wq hq
     go_wp2
     go_ret
     exact ⟨by rw [HR.out] <;> rfl, HX0.out.trans (HX.out.trans hq)⟩
    | false =>
     by_cases hk0 : k = 0
     ·have HN := HYES (by unfold riseOk; rw [hgy, i1, i2, decide_eq_true hk0]; rfl)
      have i3 : decide (0 < (k : Int)) = false := by simp; omega
      have i5 : decide (0 < k) = false := by simp; omega
      clear HNO HYES hgy hyk hk0
      go_upto_region 4 with fail
      refine region_reads (C := fun W1 => Ext wk W1) (by kernel_rfl) (by kernel_rfl) ((Ext.refl wk).drew) ?_
      repeat (first | go_big_quiet_skip | (go_big_quiet_want; go_big_quiet_op; first | go_big_quiet_on | (refine ⟨_, fun W hW => rfl, ?_⟩; go_big_quiet_on)) | (go_big_quiet_want; refine ⟨?_, fun W hW => ?_, ?_⟩; rotate_left; (· (obtain ⟨c0, e0⟩ := HCC.out W hW; go_simp; with_reducible rfl)); (try simp only [Act.put, yA, yB, yC]); go_big_quiet_on))
      refine wpQuiet_nil ?_
      intro wq hq
      go_wp2
      exact ⟨⟨k + 1, by omega, by go_num, HN.out, HX.out.trans hq⟩, by simp [intOf]; omega⟩
     ·obtain ⟨e, hek⟩ : ∃ e, k = e + 1 := ⟨k - 1, by omega⟩
      have i3 : decide (0 < (k : Int)) = true := by simp; omega
      have i5 : decide (0 < k) = true := by simp; omega
      have j1 : IntKind.i64.wrap ((k : Int) - 1) = (e : Int) := by rw [IntWalk.i64_in _ (by omega)]; omega
      have j2 : (0 : Int) ≤ (e : Int) := by omega
      have j3 : (e : Int) < (l.length : Int) := by omega
      obtain ⟨_, _, z, hve, hze, d1⟩ := HV3.out e (by omega)
      cases hve
      have hgz : l.getD (k - 1) 0 = z := by rw [show k - 1 = e by omega, List.getD_eq_getElem?_getD, hze.out]; rfl
      replace HCC := Lib.hid (fun W1 (h : Ext wk W1) => And.intro (HCC.out W1 h).1 (And.intro (HCC.out W1 h).2 ((HX0.out.trans (HX.out.trans h)).cell d1)))
      cases i4 : decide (y ≤ z) with
      | true =>
       have HR := HNO (by unfold riseOk; rw [hgy, hgz, i1, i2, i4, decide_eq_false hk0]; rfl)
       clear HNO HYES hgy hyk hk0 d1 hze hgz hek
       go_upto_region 4 with fail
       refine region_reads (C := fun W1 => Ext wk W1) (by kernel_rfl) (by kernel_rfl) ((Ext.refl wk).drew) ?_
       repeat (first | go_big_quiet_skip | (go_big_quiet_want; go_big_quiet_op; first | go_big_quiet_on | (refine ⟨_, fun W hW => rfl, ?_⟩; go_big_quiet_on)) | (go_big_quiet_want; refine ⟨?_, fun W hW => ?_, ?_⟩; rotate_left; (· (obtain ⟨c0, e0, e1⟩ := HCC.out W hW; go_simp; with_reducible rfl)); (try simp only [Act.put, yA, yB, yC]); go_big_quiet_on))
       refine wpQuiet_nil ?_
       intro wq hq
       go_wp2
       go_ret
       exact ⟨by rw [HR.out] <;> rfl, HX0.out.trans (HX.out.trans hq)⟩
      | false =>
       have HN := HYES (by unfold riseOk; rw [hgy, hgz, i1, i2, i4]; simp)
       clear HNO HYES hgy hyk hk0 d1 hze hgz hek
       go_upto_region 4 with fail
       refine region_reads (C := fun W1 => Ext wk W1) (by kernel_rfl) (by kernel_rfl) ((Ext.refl wk).drew) ?_
       repeat (first | go_big_quiet_skip | (go_big_quiet_want; go_big_quiet_op; first | go_big_quiet_on | (refine ⟨_, fun W hW => rfl, ?_⟩; go_big_quiet_on)) | (go_big_quiet_want; refine ⟨?_, fun W hW => ?_, ?_⟩; rotate_left; (· (obtain ⟨c0, e0, e1⟩ := HCC.out W hW; go_simp; with_reducible rfl)); (try simp only [Act.put, yA, yB, yC]); go_big_quiet_on))
       refine wpQuiet_nil ?_
       intro wq hq
       go_wp2
       exact ⟨⟨k + 1, by omega, by go_num, HN.out, HX.out.trans hq⟩, by simp [intOf]; omega⟩
  ·have x1 : decide ((k : Int) < (l.length : Int)) = false := by simpa using hlt
   have x2 : decide (k < l.length) = false := by simpa using hlt
   have HR : Hid (risingB n l = true) := by unfold Hid risingB; rw [show l.length = k by omega]; exact HA.out
   clear hlt
   go_wp2
   go_ret
   exact ⟨by rw [HR.out] <;> rfl, HX0.out.trans HX.out⟩
theorem E_letters : Elem Tryz.prog 26 53 4 32 (.agg #[.int .i64 0, .int .i64 0, .int .i64 0, .int .i64 0]) := by
 obtain ⟨i, h1, h2, h3, h4⟩ := info_parts (show (Tryz.prog.info? 53).map (fun i => (i.zero, i.size, i.bytes)) = some (some (.agg #[.int .i64 0, .int .i64 0, .int .i64 0, .int .i64 0]), 4, 32) by kernel_rfl)
 exact ⟨Tryz.underlying26, ⟨i, h1, h2, h3, h4⟩, rfl, by decide⟩
/-- What rest holds on to. -/
structure RsI (w : World) (ed : Int) (lv : Value) (L : List Letter) (v : Value) (wr : World) : Prop where
 par : wr.heap[w.heap.size]? = some (.cells #[.int .i64 ed, lv] 28 (0, 0))
 res : wr.heap[w.heap.size + 1]? = some (.cells #[.int .i64 0, .slice none 0 0] 28 (0, 0))
 box : wr.heap[w.heap.size + 2]? = some (.cells #[.int .i64 ed, v] 28 (0, 0))
 row : wr.ownsRow (w.heap.size + 3) 53 4 v L.length (L.flatMap letC)
 ext : Ext w wr
theorem RsI.on {w wr wr' : World} {ed : Int} {lv v : Value} {L : List Letter} (h : RsI w ed lv L v wr) (x : Ext wr wr') : RsI w ed lv L v wr' :=
 ⟨(x.block (Array.getElem?_eq_some_iff.1 h.par).1).trans h.par, (x.block (Array.getElem?_eq_some_iff.1 h.res).1).trans h.res, (x.block (Array.getElem?_eq_some_iff.1 h.box).1).trans h.box, owns_ext h.row x, h.ext.trans x⟩
theorem RsI.push {w wr W7 : World} {ed : Int} {lv v : Value} {L : List Letter} {y : Letter} {o : Obj} {g cap : Nat} (h : RsI w ed lv L v wr) (hgr : (wr.alloc o).grownBy W7 v.ownBlock) (hown : W7.ownsRow (w.heap.size + 3) 53 4 (.slice (some ⟨g, 0, none⟩) (L.length + 0 + 1) cap) (L.length + 0 + 1) (L.flatMap letC ++ [.int .i64 y.1, .int .i64 y.2.1, .int .i64 y.2.2.1, .int .i64 y.2.2.2])) :
 RsI w ed lv (L ++ [y]) (.slice (some ⟨g, 0, none⟩) (L.length + 0 + 1) cap) (W7.setCell ⟨w.heap.size + 2, 1, none⟩ (.slice (some ⟨g, 0, none⟩) (L.length + 0 + 1) cap)) := by
 have h1 := kept_push hgr h.par (owns_block h.row) (by omega)
 have h2 := kept_push hgr h.res (owns_block h.row) (by omega)
 have h3 := kept_push hgr h.box (owns_block h.row) (by omega)
 have hT := Touch.setCell (M := (· = w.heap.size + 2)) (A := W7) (a := ⟨w.heap.size + 2, 1, none⟩) (.slice (some ⟨g, 0, none⟩) (L.length + 0 + 1) cap) rfl
 refine ⟨hT.keep _ _ h1 (by omega), hT.keep _ _ h2 (by omega), setCell_block (i := 1) h3, ?_, ((h.ext.alloc _).grown hgr (fun q hq => by have := owns_block h.row q hq; omega)).setCell (p := ⟨w.heap.size + 2, 1, none⟩) (by simp) _⟩
 have := owns_touch hown hT (fun g hg e => by have := owns_block hown g hg; omega)
 rw [List.length_append, List.flatMap_append]
 exact this
abbrev putX2 (W : World) (k : Nat) (a0 a1 : Value) : World := (W.setCell ⟨k, 0, none⟩ a0).setCell ⟨k, 1, none⟩ a1
theorem putX2_block {W : World} {k : Nat} {z0 z1 : Value} (h : W.heap[k]? = some (.cells #[z0, z1] 28 (0, 0))) (a0 a1 : Value) : (putX2 W k a0 a1).heap[k]? = some (.cells #[a0, a1] 28 (0, 0)) :=
 setCell_block (i := 1) (v := a1) (setCell_block (i := 0) (v := a0) h)
theorem putX2_ext {w W : World} {k : Nat} (h : Ext w W) (hk : w.heap.size ≤ k) (a0 a1 : Value) : Ext w (putX2 W k a0 a1) := (h.setCell (p := ⟨k, 0, none⟩) hk _).setCell (p := ⟨k, 1, none⟩) hk _
theorem putX2_touch (W : World) (k : Nat) (a0 a1 : Value) : Touch (· = k) W (putX2 W k a0 a1) :=
 (Touch.setCell (M := (· = k)) (a := ⟨k, 0, none⟩) _ rfl).trans (Touch.setCell (a := ⟨k, 1, none⟩) _ rfl)
theorem listed_iff {l : List Int} {n : Int} : listedB l n = true ↔ n ∈ l := by
 unfold listedB
 rw [List.any_eq_true]
 exact ⟨fun ⟨x, h1, h2⟩ => by rw [beq_iff_eq] at h2; exact h2 ▸ h1, fun h => ⟨n, h, by simp⟩⟩
set_option maxRecDepth 100000 in
set_option maxHeartbeats 16000000 in
theorem lrest_any (xv v : Value) (x : Buyer) (gone : List Int) (w : World) (hl : x.letters.length ≤ 1000) (hx : BuyerAt w xv x) (hg : IntsAt w v gone) :
 Calls Tryz.prog 22 #[xv, v] w fun e w' => ∃ u, e = .returned u ∧ Ext w w' ∧ BuyerAt w' u (restB x gone) := by
 have hmix : Tryz.prog.follows .mixedOrders = true := by kernel_rfl
 obtain ⟨la, lc, rfl, hl1, hl2, hlr⟩ := hx.open
 obtain ⟨ga, gc, rfl, _⟩ := hg.open
 obtain ⟨_, _, hve, _, _, l3⟩ := RowOf.open4 (f := letC) (fun _ => rfl) hlr
 cases hve
 have HL3 := Lib.hid l3
 obtain ⟨W, HW⟩ : ∃ W, Hid (W = ((w.alloc (.cells #[.int .i64 x.editions, .slice la x.letters.length lc] 28)).alloc (.cells #[.int .i64 0, .slice none 0 0] 28)).alloc (.cells #[.int .i64 x.editions, .slice none 0 0] 28)) := ⟨_, rfl⟩
 have HRW : Hid (RsI w x.editions (.slice la x.letters.length lc) [] (.slice none 0 0) W) := by
  rw [HW.out]
  refine ⟨?_, ?_, ?_, World.ownsRow_nil _ _ _ _, (((Ext.refl w).alloc _).alloc _).alloc _⟩
  ·exact (Ext.block (((Ext.refl (w.alloc _)).alloc _).alloc _) (b := w.heap.size) (by simp)).trans (World.alloc_heap_new w _)
  ·have h := World.alloc_heap_new (w.alloc (.cells #[.int .i64 x.editions, .slice la x.letters.length lc] 28)) (.cells #[.int .i64 0, .slice none 0 0] 28)
   rw [World.size_alloc] at h
   exact (Ext.block ((Ext.refl _).alloc _) (b := w.heap.size + 1) (by simp)).trans h
  ·have h := World.alloc_heap_new ((w.alloc (.cells #[.int .i64 x.editions, .slice la x.letters.length lc] 28)).alloc (.cells #[.int .i64 0, .slice none 0 0] 28)) (.cells #[.int .i64 x.editions, .slice none 0 0] 28)
   rw [World.size_alloc, World.size_alloc] at h
   exact h
 have HLI := Lib.hid (fun (k : Nat) W1 (h : Ext w W1) => llisted_any _ gone (k : Int) W1 (hg.ext h))
 clear hx hg hlr l3 hl1 hl2
 go_enter Tryz.func22, Tryz.ntmps22
 go_upto_region 2 with fail
 rw [← HW.out]
 go_wp2
 go_loopw [6] (fun i wr => ∃ (k : Nat) (v : Value), k ≤ x.letters.length ∧ i = .int .i64 (k : Int) ∧ Hid (RsI w x.editions (.slice la x.letters.length lc) (keepTo gone x.letters k) v wr)) (fun i _ => x.letters.length - (intOf i).toNat)
 case atStart => exact ⟨0, _, Nat.zero_le _, rfl, HRW.out⟩
 case round =>
  clear HRW
  obtain ⟨k, v, hk, rfl, hr⟩ := hrel
  obtain ⟨wk, rfl⟩ : ∃ wk : World, wk = wr := ⟨_, rfl⟩
  have HRI := Lib.hid hr.out
  clear hr
  obtain ⟨va, vc, rfl, _⟩ := RowAt.open (RowAt.of_owns HRI.out.row)
  have p1 := (block_cell HRI.out.par (i := 1) rfl).1
  by_cases hlt : k < x.letters.length
  ·have x1 : decide ((k : Int) < (x.letters.length : Int)) = true := by simpa using hlt
   have x2 : decide (k < x.letters.length) = true := by simpa using hlt
   have k1 : (0 : Int) ≤ (k : Int) := by omega
   have k2 : (k : Int) < (x.letters.length : Int) := by omega
   have HLK := Lib.hid (HLI.out k wk HRI.out.ext)
   have hks := keepTo_succ gone x.letters k
   cases hli : listedB gone (k : Int) with
   | true =>
    rw [hli] at HLK
    rw [if_pos (listed_iff.1 hli), List.append_nil] at hks
    have HKS := Lib.hid hks
    clear hli hks HLI
    go_wp2_with (go_at_call 19; refine HLK.out.mono ?_; rintro e w1 ⟨rfl, rfl⟩)
    exact ⟨⟨k + 1, _, by omega, by go_num, by unfold Hid; rw [HKS.out]; exact HRI.out⟩, by simp [intOf]; omega⟩
   | false =>
    rw [hli] at HLK
    rw [if_neg (fun h => by rw [listed_iff.2 h] at hli; cases hli)] at hks
    obtain ⟨lb, lo, y, rfl, hyk, d0, d1, d2, d3⟩ := HL3.out k hlt
    rw [show x.letters.getD k (0, 0, 0, 0) = y by rw [List.getD_eq_getElem?_getD, hyk.out]; rfl] at hks
    have HKS := Lib.hid hks
    have HRD := Lib.hid (HRI.out.on (Ext.refl wk).drew)
    have hkl := keepTo_len gone x.letters k
    obtain ⟨L, hL⟩ : ∃ L, keepTo gone x.letters k = L := ⟨_, rfl⟩
    rw [hL] at HKS HRD hkl
    have HSZ := Lib.hid (show L.length + 0 + 1 ≤ maxLen ∧ (L.length + 0 + 1) * 32 ≤ 140737488355328 by unfold maxLen; omega)
    have hv6 := HRD.out.row
    rw [← hL] at hv6
    have HO6 := Lib.hid HRD.out.row
    have hbs : w.heap.size + 3 ≤ (World.drew wk).heap.size := by have := (Array.getElem?_eq_some_iff.1 HRD.out.box).1; omega
    have hx6 := HRD.out.ext
    have g0 := (block_cell HRD.out.box (i := 1) rfl).1
    have g1 := (block_cell HRD.out.box (i := 1) rfl).2
    have g2 := (block_cell HRD.out.par (i := 1) rfl).1
    have HX6 := Lib.hid hx6
    have HC := Lib.hid (fun W1 (h : Ext w W1) => And.intro (h.cell d0) (And.intro (h.cell d1) (And.intro (h.cell d2) (h.cell d3))))
    clear hli hks HLI hyk d0 d1 d2 d3 hv6 hx6
    clear hL
    go_upto_region 6 with (go_at_call 19; refine HLK.out.mono ?_; rintro e w1 ⟨rfl, rfl⟩)
    obtain ⟨d0, d1, d2, d3⟩ := HC.out _ HX6.out
    refine wp_region_noPanic ?_
    refine wp_region_any (by kernel_rfl) (wpAny_of_till (z := 10) (S := (fun w' => w'.cell? ⟨w.heap.size + 2, 1, none⟩ = some (.slice va L.length vc) ∧ w'.frozen? ⟨w.heap.size + 2, 1, none⟩ = false ∧ w'.cell? ⟨w.heap.size, 1, none⟩ = some (.slice (some ⟨lb, lo, none⟩) x.letters.length lc) ∧ w'.cell? ⟨lb, lo + k * 4, none⟩ = some (.int .i64 y.1) ∧ w'.cell? ⟨lb, lo + k * 4 + 1, none⟩ = some (.int .i64 y.2.1) ∧ w'.cell? ⟨lb, lo + k * 4 + 2, none⟩ = some (.int .i64 y.2.2.1) ∧ w'.cell? ⟨lb, lo + k * 4 + 3, none⟩ = some (.int .i64 y.2.2.2))) _ _ _ _ ?_)
    change wpTill _ _ _ _ _ _ _ _ _ wk.drew
    have hS0 := (show (World.drew wk).cell? ⟨w.heap.size + 2, 1, none⟩ = some (.slice va L.length vc) ∧ (World.drew wk).frozen? ⟨w.heap.size + 2, 1, none⟩ = false ∧ (World.drew wk).cell? ⟨w.heap.size, 1, none⟩ = some (.slice (some ⟨lb, lo, none⟩) x.letters.length lc) ∧ (World.drew wk).cell? ⟨lb, lo + k * 4, none⟩ = some (.int .i64 y.1) ∧ (World.drew wk).cell? ⟨lb, lo + k * 4 + 1, none⟩ = some (.int .i64 y.2.1) ∧ (World.drew wk).cell? ⟨lb, lo + k * 4 + 2, none⟩ = some (.int .i64 y.2.2.1) ∧ (World.drew wk).cell? ⟨lb, lo + k * 4 + 3, none⟩ = some (.int .i64 y.2.2.2) from ⟨g0, g1, g2, d0, d1, d2, d3⟩)
    refine till_at (i := 0) (d := some 21) (v := ?_) (by kernel_rfl) (by kernel_rfl) (by kernel_rfl) (by kernel_rfl) (by kernel_rfl) (fun _ _ _ h => h) (fun o ho => ?_) hS0 ?_
    rotate_left
    ·simp only [zA, zB, zD] at ho
     subst ho
     refine Or.inl ⟨by rfl, fun w' hSw => ?_⟩
     obtain ⟨hSw0, hSw1, hSw2, hSw3, hSw4, hSw5, hSw6⟩ := hSw
     go_simp
     try with_reducible rfl
    try simp only [Act.put, yA, yB, yC]
    refine till_at (i := 1) (d := some 22) (v := ?_) (by kernel_rfl) (by kernel_rfl) (by kernel_rfl) (by kernel_rfl) (by kernel_rfl) (fun _ _ _ h => h) (fun o ho => ?_) hS0 ?_
    rotate_left
    ·simp only [zA, zB, zC, zD] at ho
     subst ho
     refine Or.inl ⟨by rfl, fun w' hSw => ?_⟩
     obtain ⟨hSw0, hSw1, hSw2, hSw3, hSw4, hSw5, hSw6⟩ := hSw
     go_simp
     try with_reducible rfl
    try simp only [Act.put, yA, yB, yC]
    refine till_at (i := 2) (d := some 23) (v := ?_) (by kernel_rfl) (by kernel_rfl) (by kernel_rfl) (by kernel_rfl) (by kernel_rfl) (fun _ _ _ h => h) (fun o ho => ?_) hS0 ?_
    rotate_left
    ·simp only [zA, zB, zC, zD] at ho
     subst ho
     refine Or.inl ⟨by rfl, fun w' hSw => ?_⟩
     obtain ⟨hSw0, hSw1, hSw2, hSw3, hSw4, hSw5, hSw6⟩ := hSw
     go_simp
     try with_reducible rfl
    try simp only [Act.put, yA, yB, yC]
    refine till_at (i := 3) (d := some 24) (v := ?_) (by kernel_rfl) (by kernel_rfl) (by kernel_rfl) (by kernel_rfl) (by kernel_rfl) (fun _ _ _ h => h) (fun o ho => ?_) hS0 ?_
    rotate_left
    ·simp only [zA, zB, zC, zD] at ho
     subst ho
     refine Or.inl ⟨by rfl, fun w' hSw => ?_⟩
     obtain ⟨hSw0, hSw1, hSw2, hSw3, hSw4, hSw5, hSw6⟩ := hSw
     go_simp
     try with_reducible rfl
    try simp only [Act.put, yA, yB, yC]
    refine till_at (i := 4) (d := some 25) (v := ?_) (by kernel_rfl) (by kernel_rfl) (by kernel_rfl) (by kernel_rfl) (by kernel_rfl) (fun _ _ _ h => h) (fun o ho => ?_) hS0 ?_
    rotate_left
    ·simp only [zA, zB, zC, zD] at ho
     subst ho
     refine Or.inl ⟨by rfl, fun w' hSw => ?_⟩
     obtain ⟨hSw0, hSw1, hSw2, hSw3, hSw4, hSw5, hSw6⟩ := hSw
     go_simp
     try with_reducible rfl
    try simp only [Act.put, yA, yB, yC]
    refine till_at (i := 5) (d := some 26) (v := ?_) (by kernel_rfl) (by kernel_rfl) (by kernel_rfl) (by kernel_rfl) (by kernel_rfl) (fun _ _ _ h => h) (fun o ho => ?_) hS0 ?_
    rotate_left
    ·simp only [zA, zB, zC, zD] at ho
     subst ho
     refine Or.inl ⟨by rfl, fun w' hSw => ?_⟩
     obtain ⟨hSw0, hSw1, hSw2, hSw3, hSw4, hSw5, hSw6⟩ := hSw
     go_simp
     try with_reducible rfl
    try simp only [Act.put, yA, yB, yC]
    refine till_at (i := 6) (d := some 27) (v := ?_) (by kernel_rfl) (by kernel_rfl) (by kernel_rfl) (by kernel_rfl) (by kernel_rfl) (fun _ _ _ h => h) (fun o ho => ?_) hS0 ?_
    rotate_left
    ·simp only [zA, zB, zC, zD] at ho
     subst ho
     refine Or.inl ⟨by rfl, fun w' hSw => ?_⟩
     obtain ⟨hSw0, hSw1, hSw2, hSw3, hSw4, hSw5, hSw6⟩ := hSw
     go_simp
     try with_reducible rfl
    try simp only [Act.put, yA, yB, yC]
    refine till_step (i := 7) (by kernel_rfl) (by kernel_rfl) (fun o ho K' hK => ?_)
    simp only [zA, zB, zC, zD] at ho
    subst ho
    go_simp
    have hS7 := (show ((World.drew wk).alloc (.cells #[.int .i64 y.1, .int .i64 y.2.1, .int .i64 y.2.2.1, .int .i64 y.2.2.2] 53)).cell? ⟨w.heap.size + 2, 1, none⟩ = some (.slice va L.length vc) ∧ ((World.drew wk).alloc (.cells #[.int .i64 y.1, .int .i64 y.2.1, .int .i64 y.2.2.1, .int .i64 y.2.2.2] 53)).frozen? ⟨w.heap.size + 2, 1, none⟩ = false ∧ ((World.drew wk).alloc (.cells #[.int .i64 y.1, .int .i64 y.2.1, .int .i64 y.2.2.1, .int .i64 y.2.2.2] 53)).cell? ⟨w.heap.size, 1, none⟩ = some (.slice (some ⟨lb, lo, none⟩) x.letters.length lc) ∧ ((World.drew wk).alloc (.cells #[.int .i64 y.1, .int .i64 y.2.1, .int .i64 y.2.2.1, .int .i64 y.2.2.2] 53)).cell? ⟨lb, lo + k * 4, none⟩ = some (.int .i64 y.1) ∧ ((World.drew wk).alloc (.cells #[.int .i64 y.1, .int .i64 y.2.1, .int .i64 y.2.2.1, .int .i64 y.2.2.2] 53)).cell? ⟨lb, lo + k * 4 + 1, none⟩ = some (.int .i64 y.2.1) ∧ ((World.drew wk).alloc (.cells #[.int .i64 y.1, .int .i64 y.2.1, .int .i64 y.2.2.1, .int .i64 y.2.2.2] 53)).cell? ⟨lb, lo + k * 4 + 2, none⟩ = some (.int .i64 y.2.2.1) ∧ ((World.drew wk).alloc (.cells #[.int .i64 y.1, .int .i64 y.2.1, .int .i64 y.2.2.1, .int .i64 y.2.2.2] 53)).cell? ⟨lb, lo + k * 4 + 3, none⟩ = some (.int .i64 y.2.2.2) from ⟨((Ext.refl _).alloc _).cell g0, (((Ext.refl _).alloc _).frozen (show (⟨w.heap.size + 2, 1, none⟩ : Addr).block < (World.drew wk).heap.size from hbs)).trans g1, ((Ext.refl _).alloc _).cell g2, HC.out _ (HX6.out.alloc _)⟩)
    refine hK.out _ _ (fun _ => hS7) (fun _ => ?_)
    clear hK K'
    try simp only [Act.put, yA, yB, yC]
    refine till_step (i := 8) (by kernel_rfl) (by kernel_rfl) (fun o ho K' hK => ?_)
    simp only [zA, zB, zC, zD] at ho
    subst ho
    refine step_push_n E_letters (by rfl) _ _ (by rfl) (w.heap.size + 3) (by rfl) HO6.out (q := 0) (by rfl) (by rfl) (by rfl) one_le_maxLen (by simp [Value.oneCell']) ?_ HSZ.out.1 HSZ.out.2 hbs
    intro g9 cap9 w9 hown9 hg9 hloc9
    have hx9 : Ext w w9 := (HX6.out.alloc _).grown hg9 (fun q hq => by have := owns_block HO6.out q hq; omega)
    have HB9 := Lib.hid (kept_push hg9 HRD.out.box (owns_block HO6.out) (by omega))
    have HP9 := Lib.hid (kept_push hg9 HRD.out.par (owns_block HO6.out) (by omega))
    have HR9 := Lib.hid (HRD.out.push hg9 hown9)
    obtain ⟨e0, e1, e2, e3⟩ := HC.out _ hx9
    clear hown9 hg9 hloc9
    have hS8 := (show w9.cell? ⟨w.heap.size + 2, 1, none⟩ = some (.slice va L.length vc) ∧ w9.frozen? ⟨w.heap.size + 2, 1, none⟩ = false ∧ w9.cell? ⟨w.heap.size, 1, none⟩ = some (.slice (some ⟨lb, lo, none⟩) x.letters.length lc) ∧ w9.cell? ⟨lb, lo + k * 4, none⟩ = some (.int .i64 y.1) ∧ w9.cell? ⟨lb, lo + k * 4 + 1, none⟩ = some (.int .i64 y.2.1) ∧ w9.cell? ⟨lb, lo + k * 4 + 2, none⟩ = some (.int .i64 y.2.2.1) ∧ w9.cell? ⟨lb, lo + k * 4 + 3, none⟩ = some (.int .i64 y.2.2.2) from ⟨(block_cell HB9.out (i := 1) rfl).1, (block_cell HB9.out (i := 1) rfl).2, (block_cell HP9.out (i := 1) rfl).1, e0, e1, e2, e3⟩)
    refine hK.out _ _ (fun _ => hS8) (fun _ => ?_)
    clear hK K'
    try simp only [Act.put, yA, yB, yC]
    refine till_at (i := 9) (d := some 30) (v := ?_) (by kernel_rfl) (by kernel_rfl) (by kernel_rfl) (by kernel_rfl) (by kernel_rfl) (fun _ _ _ h => h) (fun o ho => ?_) hS8 ?_
    rotate_left
    ·simp only [zA, zB, zC, zD] at ho
     subst ho
     refine Or.inl ⟨by rfl, fun w' hSw => ?_⟩
     obtain ⟨hSw0, hSw1, hSw2, hSw3, hSw4, hSw5, hSw6⟩ := hSw
     go_simp
     try with_reducible rfl
    try simp only [Act.put, yA, yB, yC]
    refine till_step (i := 10) (by kernel_rfl) (by kernel_rfl) (fun o ho K' hK => ?_)
    simp only [zA, zB, zC, zD] at ho
    subst ho
    go_simp
    refine hK.out _ _ (fun h => absurd rfl h) (fun _ => ?_)
    clear hK K'
    try simp only [Act.put, yA, yB, yC]
    refine till_done (by kernel_rfl) ?_ _
    refine NoPanic.normal ?_
    try simp only [Act.put, yA, yB, yC]
    go_wp2
    exact ⟨⟨k + 1, _, by omega, by go_num, by unfold Hid; rw [HKS.out]; exact HR9.out⟩, by simp [intOf]; omega⟩
  ·have x1 : decide ((k : Int) < (x.letters.length : Int)) = false := by simpa using hlt
   have x2 : decide (k < x.letters.length) = false := by simpa using hlt
   obtain rfl : k = x.letters.length := by omega
   have hrl := keepTo_len gone x.letters x.letters.length
   have b0 := (block_cell HRI.out.box (i := 0) rfl).1
   have b1 := (block_cell HRI.out.box (i := 1) rfl).1
   have r0 := (block_cell HRI.out.res (i := 0) rfl).1
   have r1 := (block_cell HRI.out.res (i := 1) rfl).1
   have f0 := (block_cell HRI.out.res (i := 0) rfl).2
   have f1 := (block_cell HRI.out.res (i := 1) rfl).2
   clear hlt
   go_wp2
   have hT := putX2_touch wk (w.heap.size + 1) (.int .i64 x.editions) (.slice va (keepTo gone x.letters x.letters.length).length vc)
   have q0 := (block_cell (putX2_block HRI.out.res (.int .i64 x.editions) (.slice va (keepTo gone x.letters x.letters.length).length vc)) (i := 0) rfl).1
   have q1 := (block_cell (putX2_block HRI.out.res (.int .i64 x.editions) (.slice va (keepTo gone x.letters x.letters.length).length vc)) (i := 1) rfl).1
   refine bodyPost_ret (v := .agg #[.int .i64 x.editions, .slice va (keepTo gone x.letters x.letters.length).length vc]) (by simp only [putX2] at q0 q1; simp [results, Tryz.results22, go_sem, q0, q1]) rfl ?_
   exact ⟨_, rfl, putX2_ext HRI.out.ext (by omega) _ _, _, rfl, RowAt.of_owns (owns_touch HRI.out.row hT (fun g hg e => by have := owns_block HRI.out.row g hg; omega))⟩
end Go.Proofs.YtokananogogjaaaGreatDoor

/- The law OrderLies. -/
namespace Go.Proofs.YtokananogogjaaaGreatDoor
open Go.RowKit
theorem lies_err {b : Book} {x : Buyer} (h1 : isBookB b = true) (h2 : isBuyerB b x = true) : askErr b (isBuyerB b x) = 0 ∨ askErr b (isBuyerB b x) = 7 := by
 unfold askErr; rw [h1, h2]; simp only [Bool.and_self, if_true]; cases (pageB b 0).isEmpty <;> simp
theorem lies_page {b : Book} {x : Buyer} (h : askErr b (isBuyerB b x) = 0) : pageB b 0 ≠ [] := by
 intro hp
 unfold askErr at h
 rw [hp] at h
 simp at h
 split at h <;> simp at h
theorem odd_bad {b : Book} {x : Buyer} {w w' : World} {e : Ending} {z : Int} (h : OddRes b x w e w') (hz : askErr b (isBuyerB b x) = z) (h0 : z ≠ 0) : e = .returned (.tuple #[.slice none 0 0, .int .i64 z]) ∧ Ext w w' := by
 rcases h.2 with ⟨_, r⟩ | ⟨r, _⟩
 ·exact ⟨by rw [r, hz], h.1⟩
 ·exact absurd (hz.symm.trans r) h0
theorem odd_good {b : Book} {x : Buyer} {w w' : World} {e : Ending} (h : OddRes b x w e w') (hz : askErr b (isBuyerB b x) = 0) : ∃ u, e = .returned (.tuple #[u, .int .i64 0]) ∧ Ext w w' ∧ IntsAt w' u (oddB b x) := by
 rcases h.2 with ⟨r, _⟩ | ⟨_, u, r, hu⟩
 ·exact absurd hz r
 ·exact ⟨u, r, h.1, hu⟩
theorem which_bad {b : Book} {x : Buyer} {w w' : World} {e : Ending} {z : Int} (h : WhichRes b x w e w') (hz : letErr b x = z) (h0 : z ≠ 0) : e = .returned (.tuple #[.slice none 0 0, .int .i64 z]) ∧ Ext w w' := by
 rcases h.2 with ⟨_, r⟩ | ⟨r, _⟩
 ·exact ⟨by rw [r, hz], h.1⟩
 ·exact absurd (hz.symm.trans r) h0
theorem which_good {b : Book} {x : Buyer} {w w' : World} {e : Ending} (h : WhichRes b x w e w') (hz : letErr b x = 0) : ∃ u, e = .returned (.tuple #[u, .int .i64 0]) ∧ Ext w w' := by
 rcases h.2 with ⟨r, _⟩ | ⟨_, u, r, _⟩
 ·exact absurd hz r
 ·exact ⟨u, r, h.1⟩
set_option maxRecDepth 100000 in
set_option maxHeartbeats 16000000 in
theorem orderLies_any (v : Value) (b : Book) (xv : Value) (x : Buyer) (gv : Value) (gone : List Int) (w : World) (hb : BookAt w v b) (hx : BuyerAt w xv x) (hg : IntsAt w gv gone) (ht : TabOk w) (hm : MaxOk w) :
 Calls Tryz.prog 4 #[v, xv, gv] w fun e w' => e = .returned (.bool true) ∧ Ext w w' := by
 have hmix : Tryz.prog.follows .mixedOrders = true := by kernel_rfl
 obtain ⟨ga, gc, ea, ec, rfl, hgl, hel⟩ := hb.open
 obtain ⟨la, lc, rfl, hl1, hl2, _⟩ := hx.open
 obtain ⟨ta, tc, rfl, ht1, ht2, _⟩ := hg.open
 obtain ⟨W, HW⟩ : ∃ W, Hid (W = (w.alloc (bookBox (.slice ga b.goods.length gc) b (.slice ea b.entries.length ec))).alloc (.cells #[.int .i64 x.editions, .slice la x.letters.length lc] 28)) := ⟨_, rfl⟩
 have HX0 := Lib.hid (show Ext w W by rw [HW.out]; exact ((Ext.refl w).alloc _).alloc _)
 have HF := Lib.hid (fun W1 (h : Ext W W1) => (And.intro (h.cell (show W.cell? ⟨w.heap.size + 1, 0, none⟩ = some (.int .i64 x.editions) by rw [HW.out]; go_simp)) (And.intro (h.cell (show W.cell? ⟨w.heap.size + 1, 1, none⟩ = some (.slice la x.letters.length lc) by rw [HW.out]; go_simp)) (BoxAt.ext (show BoxAt W w.heap.size (.slice ga b.goods.length gc) b (.slice ea b.entries.length ec) by rw [HW.out]; exact (BoxAt.new _ _ _ _).ext ((Ext.refl _).alloc _)) h))))
 have HKN := Lib.hid (fun W1 (h : Ext W W1) => lknown_any W1 (ht.ext (HX0.out.trans h)) (hm.ext (HX0.out.trans h)))
 have HBA := Lib.hid (fun W1 (h : Ext W W1) => hb.ext (HX0.out.trans h))
 have HXA := Lib.hid (fun W1 (h : Ext W W1) => hx.ext (HX0.out.trans h))
 have HGA := Lib.hid (fun W1 (h : Ext W W1) => hg.ext (HX0.out.trans h))
 have HSH := Lib.hid (fun W1 (h : Ext W W1) => short_any _ b W1 (HBA.out W1 h))
 have HBK := Lib.hid (fun W1 (h : Ext W W1) => rbook_any _ b W1 (HBA.out W1 h))
 have HRG := Lib.hid (fun W1 (h : Ext W W1) => lrising_any _ _ x gone W1 (HXA.out W1 h) (HGA.out W1 h))
 clear hb hx hg ht hm hgl hel hl1 hl2 ht1 ht2
 go_enter Tryz.func4, Tryz.ntmps4
 go_upto_region 1 with fail
 rw [← HW.out]
 have hq := Ext.refl W
 obtain ⟨c4, c5, b0, b1, b2, b3⟩ := HF.out _ hq
 cases i0 : shortB b with
 | false =>
  rw [i0] at HSH
  clear i0
  go_wp2_with (first | (go_at_call 5; refine (HSH.out _ hq).mono ?_; rintro e w' ⟨rfl, hx⟩; have hq := hq.trans hx; clear hx; clear c4 c5 b0 b1 b2 b3; obtain ⟨c4, c5, b0, b1, b2, b3⟩ := HF.out _ hq) | (go_at_call 13; refine (HKN.out _ hq).mono ?_; rintro e w' ⟨rfl, hx⟩; have hq := hq.trans hx; clear hx; clear c4 c5 b0 b1 b2 b3; obtain ⟨c4, c5, b0, b1, b2, b3⟩ := HF.out _ hq))
  go_ret
  exact ⟨rfl, HX0.out.trans hq⟩
 | true =>
 rw [i0] at HSH
 clear i0
 cases i1 : decide (6 < (x.letters.length : Int)) with
 | true =>
  go_wp2_with (first | (go_at_call 5; refine (HSH.out _ hq).mono ?_; rintro e w' ⟨rfl, hx⟩; have hq := hq.trans hx; clear hx; clear c4 c5 b0 b1 b2 b3; obtain ⟨c4, c5, b0, b1, b2, b3⟩ := HF.out _ hq) | (go_at_call 13; refine (HKN.out _ hq).mono ?_; rintro e w' ⟨rfl, hx⟩; have hq := hq.trans hx; clear hx; clear c4 c5 b0 b1 b2 b3; obtain ⟨c4, c5, b0, b1, b2, b3⟩ := HF.out _ hq))
  go_ret
  exact ⟨rfl, HX0.out.trans hq⟩
 | false =>
 cases i2 : decide (6 < (gone.length : Int)) with
 | true =>
  go_wp2_with (first | (go_at_call 5; refine (HSH.out _ hq).mono ?_; rintro e w' ⟨rfl, hx⟩; have hq := hq.trans hx; clear hx; clear c4 c5 b0 b1 b2 b3; obtain ⟨c4, c5, b0, b1, b2, b3⟩ := HF.out _ hq) | (go_at_call 13; refine (HKN.out _ hq).mono ?_; rintro e w' ⟨rfl, hx⟩; have hq := hq.trans hx; clear hx; clear c4 c5 b0 b1 b2 b3; obtain ⟨c4, c5, b0, b1, b2, b3⟩ := HF.out _ hq))
  go_ret
  exact ⟨rfl, HX0.out.trans hq⟩
 | false =>
 cases i3 : isBookB b with
 | false =>
  rw [i3] at HBK
  clear i3
  go_wp2_with (first | (go_at_call 5; refine (HSH.out _ hq).mono ?_; rintro e w' ⟨rfl, hx⟩; have hq := hq.trans hx; clear hx; clear c4 c5 b0 b1 b2 b3; obtain ⟨c4, c5, b0, b1, b2, b3⟩ := HF.out _ hq) | (go_at_call 7; refine (HBK.out _ hq).mono ?_; rintro e w' ⟨rfl, hx⟩; have hq := hq.trans hx; clear hx; clear c4 c5 b0 b1 b2 b3; obtain ⟨c4, c5, b0, b1, b2, b3⟩ := HF.out _ hq) | (go_at_call 13; refine (HKN.out _ hq).mono ?_; rintro e w' ⟨rfl, hx⟩; have hq := hq.trans hx; clear hx; clear c4 c5 b0 b1 b2 b3; obtain ⟨c4, c5, b0, b1, b2, b3⟩ := HF.out _ hq))
  go_ret
  exact ⟨rfl, HX0.out.trans hq⟩
 | true =>
 rw [i3] at HBK
 have hB := bookB_of i3
 have HBU := Lib.hid (fun W1 (h : Ext W W1) => rbuyer_any _ _ b x W1 hB (HBA.out W1 h) (HXA.out W1 h))
 cases i4 : isBuyerB b x with
 | false =>
  rw [i4] at HBU
  clear i3 i4 hB
  go_wp2_with (first | (go_at_call 5; refine (HSH.out _ hq).mono ?_; rintro e w' ⟨rfl, hx⟩; have hq := hq.trans hx; clear hx; clear c4 c5 b0 b1 b2 b3; obtain ⟨c4, c5, b0, b1, b2, b3⟩ := HF.out _ hq) | (go_at_call 7; refine (HBK.out _ hq).mono ?_; rintro e w' ⟨rfl, hx⟩; have hq := hq.trans hx; clear hx; clear c4 c5 b0 b1 b2 b3; obtain ⟨c4, c5, b0, b1, b2, b3⟩ := HF.out _ hq) | (go_at_call 8; refine (HBU.out _ hq).mono ?_; rintro e w' ⟨rfl, hx⟩; have hq := hq.trans hx; clear hx; clear c4 c5 b0 b1 b2 b3; obtain ⟨c4, c5, b0, b1, b2, b3⟩ := HF.out _ hq) | (go_at_call 13; refine (HKN.out _ hq).mono ?_; rintro e w' ⟨rfl, hx⟩; have hq := hq.trans hx; clear hx; clear c4 c5 b0 b1 b2 b3; obtain ⟨c4, c5, b0, b1, b2, b3⟩ := HF.out _ hq))
  go_ret
  exact ⟨rfl, HX0.out.trans hq⟩
 | true =>
 rw [i4] at HBU
 cases i5 : risingB x.letters.length gone with
 | false =>
  rw [i5] at HRG
  clear i3 i4 i5 hB
  go_wp2_with (first | (go_at_call 5; refine (HSH.out _ hq).mono ?_; rintro e w' ⟨rfl, hx⟩; have hq := hq.trans hx; clear hx; clear c4 c5 b0 b1 b2 b3; obtain ⟨c4, c5, b0, b1, b2, b3⟩ := HF.out _ hq) | (go_at_call 7; refine (HBK.out _ hq).mono ?_; rintro e w' ⟨rfl, hx⟩; have hq := hq.trans hx; clear hx; clear c4 c5 b0 b1 b2 b3; obtain ⟨c4, c5, b0, b1, b2, b3⟩ := HF.out _ hq) | (go_at_call 8; refine (HBU.out _ hq).mono ?_; rintro e w' ⟨rfl, hx⟩; have hq := hq.trans hx; clear hx; clear c4 c5 b0 b1 b2 b3; obtain ⟨c4, c5, b0, b1, b2, b3⟩ := HF.out _ hq) | (go_at_call 20; refine (HRG.out _ hq).mono ?_; rintro e w' ⟨rfl, hx⟩; clear HRG; have hq := hq.trans hx; clear hx; clear c4 c5 b0 b1 b2 b3; obtain ⟨c4, c5, b0, b1, b2, b3⟩ := HF.out _ hq) | (go_at_call 13; refine (HKN.out _ hq).mono ?_; rintro e w' ⟨rfl, hx⟩; have hq := hq.trans hx; clear hx; clear c4 c5 b0 b1 b2 b3; obtain ⟨c4, c5, b0, b1, b2, b3⟩ := HF.out _ hq))
  go_ret
  exact ⟨rfl, HX0.out.trans hq⟩
 | true =>
 rw [i5] at HRG
 have HOD0 := Lib.hid (fun W1 (h : Ext W W1) => Odd_any _ _ b x W1 hB (HBA.out W1 h) (HXA.out W1 h))
 rcases lies_err i3 i4 with hz | hz
 rotate_left
 ·have HOD := Lib.hid (fun W1 (h : Ext W W1) => (HOD0.out W1 h).mono (fun e w' q => odd_bad (z := 7) (show OddRes b x W1 e w' from q) hz (by omega)))
  clear i3 i4 i5 hB HOD0 hz
  go_wp2_with (first | (go_at_call 5; refine (HSH.out _ hq).mono ?_; rintro e w' ⟨rfl, hx⟩; have hq := hq.trans hx; clear hx; clear c4 c5 b0 b1 b2 b3; obtain ⟨c4, c5, b0, b1, b2, b3⟩ := HF.out _ hq) | (go_at_call 7; refine (HBK.out _ hq).mono ?_; rintro e w' ⟨rfl, hx⟩; have hq := hq.trans hx; clear hx; clear c4 c5 b0 b1 b2 b3; obtain ⟨c4, c5, b0, b1, b2, b3⟩ := HF.out _ hq) | (go_at_call 8; refine (HBU.out _ hq).mono ?_; rintro e w' ⟨rfl, hx⟩; have hq := hq.trans hx; clear hx; clear c4 c5 b0 b1 b2 b3; obtain ⟨c4, c5, b0, b1, b2, b3⟩ := HF.out _ hq) | (go_at_call 20; refine (HRG.out _ hq).mono ?_; rintro e w' ⟨rfl, hx⟩; clear HRG; have hq := hq.trans hx; clear hx; clear c4 c5 b0 b1 b2 b3; obtain ⟨c4, c5, b0, b1, b2, b3⟩ := HF.out _ hq) | (go_at_call 21; refine (HOD.out _ hq).mono ?_; rintro e w' ⟨rfl, hx⟩; have hq := hq.trans hx; clear hx; clear c4 c5 b0 b1 b2 b3; obtain ⟨c4, c5, b0, b1, b2, b3⟩ := HF.out _ hq) | (go_at_call 13; refine (HKN.out _ hq).mono ?_; rintro e w' ⟨rfl, hx⟩; have hq := hq.trans hx; clear hx; clear c4 c5 b0 b1 b2 b3; obtain ⟨c4, c5, b0, b1, b2, b3⟩ := HF.out _ hq))
  go_ret
  exact ⟨rfl, HX0.out.trans hq⟩
 have HOD := Lib.hid (fun W1 (h : Ext W W1) => (HOD0.out W1 h).mono (fun e w' q => odd_good (show OddRes b x W1 e w' from q) hz))
 have hne := reads_ne hB i4 (lies_page hz)
 have hzt : askErr b true = 0 := by rwa [i4] at hz
 have hor : Rising x.letters.length (oddB b x) := by
  obtain ⟨r, _, ho, _⟩ := odd_best hne
  rw [ho]; exact wrong_rising b x r.2
 have hrg : Rising x.letters.length gone := rising_iff.1 i5
 have hol := rising_len hor
 have hx4 := (buyer_len i4).2
 have HRL := Lib.hid (fun (u : Value) W1 (h : Ext W W1) (hu : IntsAt W1 u (oddB b x)) => lrising_any _ u x (oddB b x) W1 (HXA.out W1 h) hu)
 rw [rising_iff.2 hor] at HRL
 have HBF := Lib.hid (fun (u : Value) W1 (h : Ext W W1) (hu : IntsAt W1 u (oddB b x)) => rbefore_any _ u gone (oddB b x) W1 (HGA.out W1 h) hu)
 have HEN := Lib.hid (fun hl => odd_enough hzt i4 hne hl)
 have HLE := Lib.hid (fun hb => odd_least (gone := gone) hzt i4 hne hrg hb)
 have HRS := Lib.hid (fun (u : Value) (l : List Int) W1 (h : Ext W W1) (hu : IntsAt W1 u l) => lrest_any _ u x l W1 (by omega) (HXA.out W1 h) hu)
 have HWH := Lib.hid (fun (u : Value) (l : List Int) W1 (h : Ext W W1) (hu : BuyerAt W1 u (restB x l)) => Which_any _ u b (restB x l) W1 hB (HBA.out W1 h) hu)
 have d1 : decide ((x.letters.length : Int) < ((oddB b x).length : Int)) = false := by simp; omega
 have n1 : decide (x.letters.length < (oddB b x).length) = false := by simp; omega
 have HGL : Hid (gone.length ≤ 6) := by unfold Hid; simp at i2; omega
 clear i3 i4 i5 hB HOD0 hz hne hzt hor hrg
 by_cases hlt : (oddB b x).length < x.letters.length
 ·have d2 : decide (((oddB b x).length : Int) < (x.letters.length : Int)) = true := by simpa using hlt
  have n2 : decide ((oddB b x).length < x.letters.length) = true := by simpa using hlt
  have HW0 := HEN.out hlt
  clear HEN hol
  go_upto_region 9 with (first | (go_at_call 5; refine (HSH.out _ hq).mono ?_; rintro e w' ⟨rfl, hx⟩; have hq := hq.trans hx; clear hx; clear c4 c5 b0 b1 b2 b3; obtain ⟨c4, c5, b0, b1, b2, b3⟩ := HF.out _ hq) | (go_at_call 7; refine (HBK.out _ hq).mono ?_; rintro e w' ⟨rfl, hx⟩; have hq := hq.trans hx; clear hx; clear c4 c5 b0 b1 b2 b3; obtain ⟨c4, c5, b0, b1, b2, b3⟩ := HF.out _ hq) | (go_at_call 8; refine (HBU.out _ hq).mono ?_; rintro e w' ⟨rfl, hx⟩; have hq := hq.trans hx; clear hx; clear c4 c5 b0 b1 b2 b3; obtain ⟨c4, c5, b0, b1, b2, b3⟩ := HF.out _ hq) | (go_at_call 20; refine (HRG.out _ hq).mono ?_; rintro e w' ⟨rfl, hx⟩; clear HRG; have hq := hq.trans hx; clear hx; clear c4 c5 b0 b1 b2 b3; obtain ⟨c4, c5, b0, b1, b2, b3⟩ := HF.out _ hq) | (go_at_call 21; refine (HOD.out _ hq).mono ?_; rintro e w' ⟨u, rfl, hx, hu⟩; obtain ⟨ua, uc, rfl, _⟩ := hu.open; have HU := Lib.hid (fun W1 (h : Ext w' W1) => hu.ext h); clear hu HOD; have hq := hq.trans hx; clear hx; clear c4 c5 b0 b1 b2 b3; obtain ⟨c4, c5, b0, b1, b2, b3⟩ := HF.out _ hq) | (go_at_call 20; refine (HRL.out _ _ hq (HU.out _ eS)).mono ?_; rintro e wz ⟨rfl, hx⟩; replace HU := Lib.hid (fun W1 (h : Ext wz W1) => HU.out W1 (Ext.trans eS (hx.trans h))); clear HRL; have hq := hq.trans hx; clear hx; clear c4 c5 b0 b1 b2 b3; obtain ⟨c4, c5, b0, b1, b2, b3⟩ := HF.out _ hq))
  have HQ := Lib.hid hq
  clear hq c4 c5 b0 b1 b2 b3
  refine wp_region_held_drew (S := (fun W' => (W'.cell? ⟨w.heap.size + 1, 0, none⟩ = some (.int .i64 x.editions) ∧ W'.cell? ⟨w.heap.size + 1, 1, none⟩ = some (.slice la x.letters.length lc)) ∧ BoxAt W' w.heap.size (.slice ga b.goods.length gc) b (.slice ea b.entries.length ec))) (by kernel_rfl) ?_ (fun hHeld => ?_)
  ·exact (let q := HF.out _ (Ext.trans HQ.out eS); ⟨⟨q.1, q.2.1⟩, q.2.2⟩)
  refine hTk (i := 0) (d := some 77) (v := ?_) (fun o ho => ?_) hHeld ?_
  rotate_left
  ·simp only [zA, zB, zD] at ho
   subst ho
   refine ⟨by rfl, fun w hSw => ?_⟩
   obtain ⟨⟨c4, c5⟩, b0, b1, b2, b3⟩ := hSw
   go_simp
   try with_reducible rfl
  try simp only [Act.put, yA, yB, yC]
  refine hTk (i := 1) (d := some 78) (v := ?_) (fun o ho => ?_) hHeld ?_
  rotate_left
  ·simp only [zA, zB, zC, zD] at ho
   subst ho
   refine ⟨by rfl, fun w hSw => ?_⟩
   obtain ⟨⟨c4, c5⟩, b0, b1, b2, b3⟩ := hSw
   go_simp
   try with_reducible rfl
  try simp only [Act.put, yA, yB, yC]
  refine hTk (i := 2) (d := some 79) (v := ?_) (fun o ho => ?_) hHeld ?_
  rotate_left
  ·simp only [zA, zB, zC, zD] at ho
   subst ho
   refine ⟨by rfl, fun w hSw => ?_⟩
   (try dsimp only at hSw)
   go_simp
   try with_reducible rfl
  try simp only [Act.put, yA, yB, yC]
  refine wpAnyH_ready (rs := [3]) (by kernel_rfl) (by simp) ?_
  refine held_step (i := 3) (by kernel_rfl) (fun o ho K' hK => ?_) ?_
  ·simp only [zA, zB, zC, zD] at ho
   subst ho
   go_simp
   go_at_call 22
   refine (HRS.out _ _ _ (Ext.trans HQ.out eS) (HU.out _ eS)).mono ?_
   rintro r w3 ⟨uz, rfl, hz, hbu⟩
   have hy3 : Ext W w3 := Ext.trans (Ext.trans HQ.out eS) hz
   have hv3 : Ext wz w3 := Ext.trans eS hz
   clear hz
   try go_simp
   refine hK.out _ _ ?_ (fun hHeld => ?_)
   ·exact (let q := HF.out _ (hy3); ⟨⟨q.1, q.2.1⟩, q.2.2⟩)
   clear hK K'
   try simp only [yA, yB, yC]
   refine wpAnyH_ready (rs := [4]) (by kernel_rfl) (by simp) ?_
   refine held_step (i := 4) (by kernel_rfl) (fun o ho K' hK => ?_) ?_
   ·simp only [zA, zB, zC, zD] at ho
    subst ho
    go_simp
    go_at_call 15
    refine ((HWH.out _ _ _ (Ext.trans hy3 eS) (hbu.ext eS)).mono (fun e w' q => which_good (show WhichRes b (restB x (oddB b x)) _ e w' from q) HW0)).mono ?_
    rintro r w4 ⟨uy, rfl, hz⟩
    have hy4 : Ext W w4 := Ext.trans (Ext.trans hy3 eS) hz
    have hv4 : Ext wz w4 := Ext.trans (Ext.trans hv3 eS) hz
    clear hz hbu
    try go_simp
    refine hK.out _ _ ?_ (fun hHeld => ?_)
    ·exact (let q := HF.out _ (hy4); ⟨⟨q.1, q.2.1⟩, q.2.2⟩)
    clear hK K'
    try simp only [yA, yB, yC]
    refine hTk (i := 5) (d := some 76) (v := ?_) (fun o ho => ?_) hHeld ?_
    rotate_left
    ·simp only [zA, zB, zC, zD] at ho
     subst ho
     refine ⟨by rfl, fun w hSw => ?_⟩
     (try dsimp only at hSw)
     go_simp
     try with_reducible rfl
    try simp only [Act.put, yA, yB, yC]
    refine hTk (i := 6) (d := some 82) (v := ?_) (fun o ho => ?_) hHeld ?_
    rotate_left
    ·simp only [zA, zB, zC, zD] at ho
     subst ho
     refine ⟨by rfl, fun w hSw => ?_⟩
     (try dsimp only at hSw)
     go_simp
     try with_reducible rfl
    try simp only [Act.put, yA, yB, yC]
    refine hTk (i := 7) (d := some 83) (v := ?_) (fun o ho => ?_) hHeld ?_
    rotate_left
    ·simp only [zA, zB, zC, zD] at ho
     subst ho
     refine ⟨by rfl, fun w hSw => ?_⟩
     (try dsimp only at hSw)
     go_simp
     try with_reducible rfl
    try simp only [Act.put, yA, yB, yC]
    refine wpAnyH_ready (rs := [8]) (by kernel_rfl) (by simp) ?_
    refine held_step (i := 8) (by kernel_rfl) (fun o ho K' hK => ?_) ?_
    ·simp only [zA, zB, zC, zD] at ho
     subst ho
     go_simp
     refine hK.out _ _ ?_ (fun hHeld => ?_)
     ·exact (let q := HF.out _ (Ext.trans hy4 eS); ⟨⟨q.1, q.2.1⟩, q.2.2⟩)
     clear hK K'
     try simp only [yA, yB, yC]
     refine wpAnyH_ready (rs := [9]) (by kernel_rfl) (by simp) ?_
     refine held_step (i := 9) (by kernel_rfl) (fun o ho K' hK => ?_) ?_
     ·simp only [zA, zB, zC, zD] at ho
      subst ho
      go_simp
      refine hK.out _ _ ?_ (fun hHeld => ?_)
      ·exact (let q := HF.out _ (Ext.trans hy4 eS); ⟨⟨q.1, q.2.1⟩, q.2.2⟩)
      clear hK K'
      try simp only [yA, yB, yC]
      refine wpAnyH_done (by kernel_rfl) ?_ _
      try simp only [yA, yB, yC]
      clear hHeld
      have hq := Ext.trans hy4 eS
      obtain ⟨c4, c5, b0, b1, b2, b3⟩ := HF.out _ hq
      replace HU := Lib.hid (fun W1 (h : Ext w4 W1) => HU.out W1 (hv4.trans h))
      go_upto_region 12 with fail
      by_cases h3 : (oddB b x).length < gone.length
      ·have d3 : decide (((oddB b x).length : Int) < (gone.length : Int)) = true := by simpa using h3
       have n3 : decide ((oddB b x).length < gone.length) = true := by simpa using h3
       go_wp2_with (first | (go_at_call 13; refine (HKN.out _ hq).mono ?_; rintro e w' ⟨rfl, hx⟩; have hq := hq.trans hx; clear hx; clear c4 c5 b0 b1 b2 b3; obtain ⟨c4, c5, b0, b1, b2, b3⟩ := HF.out _ hq))
       go_ret
       exact ⟨rfl, HX0.out.trans hq⟩
      have d3 : decide (((oddB b x).length : Int) < (gone.length : Int)) = false := by simpa using h3
      have n3 : decide ((oddB b x).length < gone.length) = false := by simpa using h3
      by_cases h4 : gone.length = (oddB b x).length
      ·have d4 : ((gone.length : Int) == ((oddB b x).length : Int)) = true := by simp; omega
       have n4 : (gone.length == (oddB b x).length) = true := by simp; omega
       have m4 : decide (gone.length = (oddB b x).length) = true := by simp; omega
       cases d5 : decide (cmpL gone (oddB b x) < 0) with
       | false =>
        rw [d5] at HBF
        clear h4 HLE
        go_wp2_with (first | (go_at_call 23; refine (HBF.out _ _ hq (HU.out _ eS)).mono ?_; rintro e w' ⟨rfl, hx⟩; have hq := hq.trans hx; clear hx; clear c4 c5 b0 b1 b2 b3; obtain ⟨c4, c5, b0, b1, b2, b3⟩ := HF.out _ hq) | (go_at_call 13; refine (HKN.out _ hq).mono ?_; rintro e w' ⟨rfl, hx⟩; have hq := hq.trans hx; clear hx; clear c4 c5 b0 b1 b2 b3; obtain ⟨c4, c5, b0, b1, b2, b3⟩ := HF.out _ hq))
        go_ret
        exact ⟨rfl, HX0.out.trans hq⟩
       | true =>
        rw [d5] at HBF
        have HW7 := HLE.out (by unfold ltO; rw [decide_eq_true h4, d5]; simp)
        clear h4 HLE
        go_upto_region 14 with (go_at_call 23; refine (HBF.out _ _ hq (HU.out _ eS)).mono ?_; rintro e w' ⟨rfl, hx⟩; have hq := hq.trans hx; clear hx; clear c4 c5 b0 b1 b2 b3; obtain ⟨c4, c5, b0, b1, b2, b3⟩ := HF.out _ hq)
        have HQ := Lib.hid hq
        clear hq c4 c5 b0 b1 b2 b3
        refine wp_region_held_drew (S := (fun W' => (W'.cell? ⟨w.heap.size + 1, 0, none⟩ = some (.int .i64 x.editions) ∧ W'.cell? ⟨w.heap.size + 1, 1, none⟩ = some (.slice la x.letters.length lc)) ∧ BoxAt W' w.heap.size (.slice ga b.goods.length gc) b (.slice ea b.entries.length ec))) (by kernel_rfl) ?_ (fun hHeld => ?_)
        ·exact (let q := HF.out _ (Ext.trans HQ.out eS); ⟨⟨q.1, q.2.1⟩, q.2.2⟩)
        refine hTk (i := 0) (d := some 106) (v := ?_) (fun o ho => ?_) hHeld ?_
        rotate_left
        ·simp only [zA, zB, zD] at ho
         subst ho
         refine ⟨by rfl, fun w hSw => ?_⟩
         obtain ⟨⟨c4, c5⟩, b0, b1, b2, b3⟩ := hSw
         go_simp
         try with_reducible rfl
        try simp only [Act.put, yA, yB, yC]
        refine hTk (i := 1) (d := some 107) (v := ?_) (fun o ho => ?_) hHeld ?_
        rotate_left
        ·simp only [zA, zB, zC, zD] at ho
         subst ho
         refine ⟨by rfl, fun w hSw => ?_⟩
         obtain ⟨⟨c4, c5⟩, b0, b1, b2, b3⟩ := hSw
         go_simp
         try with_reducible rfl
        try simp only [Act.put, yA, yB, yC]
        refine hTk (i := 2) (d := some 108) (v := ?_) (fun o ho => ?_) hHeld ?_
        rotate_left
        ·simp only [zA, zB, zC, zD] at ho
         subst ho
         refine ⟨by rfl, fun w hSw => ?_⟩
         (try dsimp only at hSw)
         go_simp
         try with_reducible rfl
        try simp only [Act.put, yA, yB, yC]
        refine wpAnyH_ready (rs := [3]) (by kernel_rfl) (by simp) ?_
        refine held_step (i := 3) (by kernel_rfl) (fun o ho K' hK => ?_) ?_
        ·simp only [zA, zB, zC, zD] at ho
         subst ho
         go_simp
         go_at_call 22
         refine (HRS.out _ _ _ (Ext.trans HQ.out eS) (HGA.out _ (Ext.trans HQ.out eS))).mono ?_
         rintro r w3 ⟨uz, rfl, hz, hbu⟩
         have hy3 : Ext W w3 := Ext.trans (Ext.trans HQ.out eS) hz
         clear hz
         try go_simp
         refine hK.out _ _ ?_ (fun hHeld => ?_)
         ·exact (let q := HF.out _ (hy3); ⟨⟨q.1, q.2.1⟩, q.2.2⟩)
         clear hK K'
         try simp only [yA, yB, yC]
         refine wpAnyH_ready (rs := [4]) (by kernel_rfl) (by simp) ?_
         refine held_step (i := 4) (by kernel_rfl) (fun o ho K' hK => ?_) ?_
         ·simp only [zA, zB, zC, zD] at ho
          subst ho
          go_simp
          go_at_call 15
          refine ((HWH.out _ _ _ (Ext.trans hy3 eS) (hbu.ext eS)).mono (fun e w' q => which_bad (z := 7) (show WhichRes b (restB x gone) _ e w' from q) HW7 (by omega))).mono ?_
          rintro r w4 ⟨rfl, hz⟩
          have hy4 : Ext W w4 := Ext.trans (Ext.trans hy3 eS) hz
          clear hz hbu
          try go_simp
          refine hK.out _ _ ?_ (fun hHeld => ?_)
          ·exact (let q := HF.out _ (hy4); ⟨⟨q.1, q.2.1⟩, q.2.2⟩)
          clear hK K'
          try simp only [yA, yB, yC]
          refine hTk (i := 5) (d := some 105) (v := ?_) (fun o ho => ?_) hHeld ?_
          rotate_left
          ·simp only [zA, zB, zC, zD] at ho
           subst ho
           refine ⟨by rfl, fun w hSw => ?_⟩
           (try dsimp only at hSw)
           go_simp
           try with_reducible rfl
          try simp only [Act.put, yA, yB, yC]
          refine hTk (i := 6) (d := some 111) (v := ?_) (fun o ho => ?_) hHeld ?_
          rotate_left
          ·simp only [zA, zB, zC, zD] at ho
           subst ho
           refine ⟨by rfl, fun w hSw => ?_⟩
           (try dsimp only at hSw)
           go_simp
           try with_reducible rfl
          try simp only [Act.put, yA, yB, yC]
          refine hTk (i := 7) (d := some 112) (v := ?_) (fun o ho => ?_) hHeld ?_
          rotate_left
          ·simp only [zA, zB, zC, zD] at ho
           subst ho
           refine ⟨by rfl, fun w hSw => ?_⟩
           (try dsimp only at hSw)
           go_simp
           try with_reducible rfl
          try simp only [Act.put, yA, yB, yC]
          refine wpAnyH_ready (rs := [8]) (by kernel_rfl) (by simp) ?_
          refine held_step (i := 8) (by kernel_rfl) (fun o ho K' hK => ?_) ?_
          ·simp only [zA, zB, zC, zD] at ho
           subst ho
           go_simp
           refine hK.out _ _ ?_ (fun hHeld => ?_)
           ·exact (let q := HF.out _ (Ext.trans hy4 eS); ⟨⟨q.1, q.2.1⟩, q.2.2⟩)
           clear hK K'
           try simp only [yA, yB, yC]
           refine wpAnyH_ready (rs := [9]) (by kernel_rfl) (by simp) ?_
           refine held_step (i := 9) (by kernel_rfl) (fun o ho K' hK => ?_) ?_
           ·simp only [zA, zB, zC, zD] at ho
            subst ho
            go_simp
            refine hK.out _ _ ?_ (fun hHeld => ?_)
            ·exact (let q := HF.out _ (Ext.trans hy4 eS); ⟨⟨q.1, q.2.1⟩, q.2.2⟩)
            clear hK K'
            try simp only [yA, yB, yC]
            refine wpAnyH_done (by kernel_rfl) ?_ _
            try simp only [yA, yB, yC]
            clear hHeld
            have hq := Ext.trans hy4 eS
            obtain ⟨c4, c5, b0, b1, b2, b3⟩ := HF.out _ hq
            go_wp2_with (first | (go_at_call 13; refine (HKN.out _ hq).mono ?_; rintro e w' ⟨rfl, hx⟩; have hq := hq.trans hx; clear hx; clear c4 c5 b0 b1 b2 b3; obtain ⟨c4, c5, b0, b1, b2, b3⟩ := HF.out _ hq))
            go_ret
            exact ⟨rfl, HX0.out.trans hq⟩
           exact AllReadyH.nil
          exact AllReadyH.nil
         exact AllReadyH.nil
        exact AllReadyH.nil
      ·have d4 : ((gone.length : Int) == ((oddB b x).length : Int)) = false := by simp; omega
       have n4 : (gone.length == (oddB b x).length) = false := by simp; omega
       have m4 : decide (gone.length = (oddB b x).length) = false := by simp; omega
       have HW7 := HLE.out (by unfold ltO; rw [decide_eq_true (show gone.length < (oddB b x).length by omega)]; rfl)
       clear h4 HLE
       go_upto_region 14 with fail
       have HQ := Lib.hid hq
       clear hq c4 c5 b0 b1 b2 b3
       refine wp_region_held_drew (S := (fun W' => (W'.cell? ⟨w.heap.size + 1, 0, none⟩ = some (.int .i64 x.editions) ∧ W'.cell? ⟨w.heap.size + 1, 1, none⟩ = some (.slice la x.letters.length lc)) ∧ BoxAt W' w.heap.size (.slice ga b.goods.length gc) b (.slice ea b.entries.length ec))) (by kernel_rfl) ?_ (fun hHeld => ?_)
       ·exact (let q := HF.out _ (Ext.trans HQ.out eS); ⟨⟨q.1, q.2.1⟩, q.2.2⟩)
       refine hTk (i := 0) (d := some 106) (v := ?_) (fun o ho => ?_) hHeld ?_
       rotate_left
       ·simp only [zA, zB, zD] at ho
        subst ho
        refine ⟨by rfl, fun w hSw => ?_⟩
        obtain ⟨⟨c4, c5⟩, b0, b1, b2, b3⟩ := hSw
        go_simp
        try with_reducible rfl
       try simp only [Act.put, yA, yB, yC]
       refine hTk (i := 1) (d := some 107) (v := ?_) (fun o ho => ?_) hHeld ?_
       rotate_left
       ·simp only [zA, zB, zC, zD] at ho
        subst ho
        refine ⟨by rfl, fun w hSw => ?_⟩
        obtain ⟨⟨c4, c5⟩, b0, b1, b2, b3⟩ := hSw
        go_simp
        try with_reducible rfl
       try simp only [Act.put, yA, yB, yC]
       refine hTk (i := 2) (d := some 108) (v := ?_) (fun o ho => ?_) hHeld ?_
       rotate_left
       ·simp only [zA, zB, zC, zD] at ho
        subst ho
        refine ⟨by rfl, fun w hSw => ?_⟩
        (try dsimp only at hSw)
        go_simp
        try with_reducible rfl
       try simp only [Act.put, yA, yB, yC]
       refine wpAnyH_ready (rs := [3]) (by kernel_rfl) (by simp) ?_
       refine held_step (i := 3) (by kernel_rfl) (fun o ho K' hK => ?_) ?_
       ·simp only [zA, zB, zC, zD] at ho
        subst ho
        go_simp
        go_at_call 22
        refine (HRS.out _ _ _ (Ext.trans HQ.out eS) (HGA.out _ (Ext.trans HQ.out eS))).mono ?_
        rintro r w3 ⟨uz, rfl, hz, hbu⟩
        have hy3 : Ext W w3 := Ext.trans (Ext.trans HQ.out eS) hz
        clear hz
        try go_simp
        refine hK.out _ _ ?_ (fun hHeld => ?_)
        ·exact (let q := HF.out _ (hy3); ⟨⟨q.1, q.2.1⟩, q.2.2⟩)
        clear hK K'
        try simp only [yA, yB, yC]
        refine wpAnyH_ready (rs := [4]) (by kernel_rfl) (by simp) ?_
        refine held_step (i := 4) (by kernel_rfl) (fun o ho K' hK => ?_) ?_
        ·simp only [zA, zB, zC, zD] at ho
         subst ho
         go_simp
         go_at_call 15
         refine ((HWH.out _ _ _ (Ext.trans hy3 eS) (hbu.ext eS)).mono (fun e w' q => which_bad (z := 7) (show WhichRes b (restB x gone) _ e w' from q) HW7 (by omega))).mono ?_
         rintro r w4 ⟨rfl, hz⟩
         have hy4 : Ext W w4 := Ext.trans (Ext.trans hy3 eS) hz
         clear hz hbu
         try go_simp
         refine hK.out _ _ ?_ (fun hHeld => ?_)
         ·exact (let q := HF.out _ (hy4); ⟨⟨q.1, q.2.1⟩, q.2.2⟩)
         clear hK K'
         try simp only [yA, yB, yC]
         refine hTk (i := 5) (d := some 105) (v := ?_) (fun o ho => ?_) hHeld ?_
         rotate_left
         ·simp only [zA, zB, zC, zD] at ho
          subst ho
          refine ⟨by rfl, fun w hSw => ?_⟩
          (try dsimp only at hSw)
          go_simp
          try with_reducible rfl
         try simp only [Act.put, yA, yB, yC]
         refine hTk (i := 6) (d := some 111) (v := ?_) (fun o ho => ?_) hHeld ?_
         rotate_left
         ·simp only [zA, zB, zC, zD] at ho
          subst ho
          refine ⟨by rfl, fun w hSw => ?_⟩
          (try dsimp only at hSw)
          go_simp
          try with_reducible rfl
         try simp only [Act.put, yA, yB, yC]
         refine hTk (i := 7) (d := some 112) (v := ?_) (fun o ho => ?_) hHeld ?_
         rotate_left
         ·simp only [zA, zB, zC, zD] at ho
          subst ho
          refine ⟨by rfl, fun w hSw => ?_⟩
          (try dsimp only at hSw)
          go_simp
          try with_reducible rfl
         try simp only [Act.put, yA, yB, yC]
         refine wpAnyH_ready (rs := [8]) (by kernel_rfl) (by simp) ?_
         refine held_step (i := 8) (by kernel_rfl) (fun o ho K' hK => ?_) ?_
         ·simp only [zA, zB, zC, zD] at ho
          subst ho
          go_simp
          refine hK.out _ _ ?_ (fun hHeld => ?_)
          ·exact (let q := HF.out _ (Ext.trans hy4 eS); ⟨⟨q.1, q.2.1⟩, q.2.2⟩)
          clear hK K'
          try simp only [yA, yB, yC]
          refine wpAnyH_ready (rs := [9]) (by kernel_rfl) (by simp) ?_
          refine held_step (i := 9) (by kernel_rfl) (fun o ho K' hK => ?_) ?_
          ·simp only [zA, zB, zC, zD] at ho
           subst ho
           go_simp
           refine hK.out _ _ ?_ (fun hHeld => ?_)
           ·exact (let q := HF.out _ (Ext.trans hy4 eS); ⟨⟨q.1, q.2.1⟩, q.2.2⟩)
           clear hK K'
           try simp only [yA, yB, yC]
           refine wpAnyH_done (by kernel_rfl) ?_ _
           try simp only [yA, yB, yC]
           clear hHeld
           have hq := Ext.trans hy4 eS
           obtain ⟨c4, c5, b0, b1, b2, b3⟩ := HF.out _ hq
           go_wp2_with (first | (go_at_call 13; refine (HKN.out _ hq).mono ?_; rintro e w' ⟨rfl, hx⟩; have hq := hq.trans hx; clear hx; clear c4 c5 b0 b1 b2 b3; obtain ⟨c4, c5, b0, b1, b2, b3⟩ := HF.out _ hq))
           go_ret
           exact ⟨rfl, HX0.out.trans hq⟩
          exact AllReadyH.nil
         exact AllReadyH.nil
        exact AllReadyH.nil
       exact AllReadyH.nil
     exact AllReadyH.nil
    exact AllReadyH.nil
   exact AllReadyH.nil
  exact AllReadyH.nil
 ·have d2 : decide (((oddB b x).length : Int) < (x.letters.length : Int)) = false := by simpa using hlt
  have n2 : decide ((oddB b x).length < x.letters.length) = false := by simpa using hlt
  clear HEN hol
  go_upto_region 12 with (first | (go_at_call 5; refine (HSH.out _ hq).mono ?_; rintro e w' ⟨rfl, hx⟩; have hq := hq.trans hx; clear hx; clear c4 c5 b0 b1 b2 b3; obtain ⟨c4, c5, b0, b1, b2, b3⟩ := HF.out _ hq) | (go_at_call 7; refine (HBK.out _ hq).mono ?_; rintro e w' ⟨rfl, hx⟩; have hq := hq.trans hx; clear hx; clear c4 c5 b0 b1 b2 b3; obtain ⟨c4, c5, b0, b1, b2, b3⟩ := HF.out _ hq) | (go_at_call 8; refine (HBU.out _ hq).mono ?_; rintro e w' ⟨rfl, hx⟩; have hq := hq.trans hx; clear hx; clear c4 c5 b0 b1 b2 b3; obtain ⟨c4, c5, b0, b1, b2, b3⟩ := HF.out _ hq) | (go_at_call 20; refine (HRG.out _ hq).mono ?_; rintro e w' ⟨rfl, hx⟩; clear HRG; have hq := hq.trans hx; clear hx; clear c4 c5 b0 b1 b2 b3; obtain ⟨c4, c5, b0, b1, b2, b3⟩ := HF.out _ hq) | (go_at_call 21; refine (HOD.out _ hq).mono ?_; rintro e w' ⟨u, rfl, hx, hu⟩; obtain ⟨ua, uc, rfl, _⟩ := hu.open; have HU := Lib.hid (fun W1 (h : Ext w' W1) => hu.ext h); clear hu HOD; have hq := hq.trans hx; clear hx; clear c4 c5 b0 b1 b2 b3; obtain ⟨c4, c5, b0, b1, b2, b3⟩ := HF.out _ hq) | (go_at_call 20; refine (HRL.out _ _ hq (HU.out _ eS)).mono ?_; rintro e wz ⟨rfl, hx⟩; replace HU := Lib.hid (fun W1 (h : Ext wz W1) => HU.out W1 (Ext.trans eS (hx.trans h))); clear HRL; have hq := hq.trans hx; clear hx; clear c4 c5 b0 b1 b2 b3; obtain ⟨c4, c5, b0, b1, b2, b3⟩ := HF.out _ hq))
  by_cases h3 : (oddB b x).length < gone.length
  ·have d3 : decide (((oddB b x).length : Int) < (gone.length : Int)) = true := by simpa using h3
   have n3 : decide ((oddB b x).length < gone.length) = true := by simpa using h3
   go_wp2_with (first | (go_at_call 13; refine (HKN.out _ hq).mono ?_; rintro e w' ⟨rfl, hx⟩; have hq := hq.trans hx; clear hx; clear c4 c5 b0 b1 b2 b3; obtain ⟨c4, c5, b0, b1, b2, b3⟩ := HF.out _ hq))
   go_ret
   exact ⟨rfl, HX0.out.trans hq⟩
  have d3 : decide (((oddB b x).length : Int) < (gone.length : Int)) = false := by simpa using h3
  have n3 : decide ((oddB b x).length < gone.length) = false := by simpa using h3
  by_cases h4 : gone.length = (oddB b x).length
  ·have d4 : ((gone.length : Int) == ((oddB b x).length : Int)) = true := by simp; omega
   have n4 : (gone.length == (oddB b x).length) = true := by simp; omega
   have m4 : decide (gone.length = (oddB b x).length) = true := by simp; omega
   cases d5 : decide (cmpL gone (oddB b x) < 0) with
   | false =>
    rw [d5] at HBF
    clear h4 HLE
    go_wp2_with (first | (go_at_call 23; refine (HBF.out _ _ hq (HU.out _ eS)).mono ?_; rintro e w' ⟨rfl, hx⟩; have hq := hq.trans hx; clear hx; clear c4 c5 b0 b1 b2 b3; obtain ⟨c4, c5, b0, b1, b2, b3⟩ := HF.out _ hq) | (go_at_call 13; refine (HKN.out _ hq).mono ?_; rintro e w' ⟨rfl, hx⟩; have hq := hq.trans hx; clear hx; clear c4 c5 b0 b1 b2 b3; obtain ⟨c4, c5, b0, b1, b2, b3⟩ := HF.out _ hq))
    go_ret
    exact ⟨rfl, HX0.out.trans hq⟩
   | true =>
    rw [d5] at HBF
    have HW7 := HLE.out (by unfold ltO; rw [decide_eq_true h4, d5]; simp)
    clear h4 HLE
    go_upto_region 14 with (go_at_call 23; refine (HBF.out _ _ hq (HU.out _ eS)).mono ?_; rintro e w' ⟨rfl, hx⟩; have hq := hq.trans hx; clear hx; clear c4 c5 b0 b1 b2 b3; obtain ⟨c4, c5, b0, b1, b2, b3⟩ := HF.out _ hq)
    have HQ := Lib.hid hq
    clear hq c4 c5 b0 b1 b2 b3
    refine wp_region_held_drew (S := (fun W' => (W'.cell? ⟨w.heap.size + 1, 0, none⟩ = some (.int .i64 x.editions) ∧ W'.cell? ⟨w.heap.size + 1, 1, none⟩ = some (.slice la x.letters.length lc)) ∧ BoxAt W' w.heap.size (.slice ga b.goods.length gc) b (.slice ea b.entries.length ec))) (by kernel_rfl) ?_ (fun hHeld => ?_)
    ·exact (let q := HF.out _ (Ext.trans HQ.out eS); ⟨⟨q.1, q.2.1⟩, q.2.2⟩)
    refine hTk (i := 0) (d := some 106) (v := ?_) (fun o ho => ?_) hHeld ?_
    rotate_left
    ·simp only [zA, zB, zD] at ho
     subst ho
     refine ⟨by rfl, fun w hSw => ?_⟩
     obtain ⟨⟨c4, c5⟩, b0, b1, b2, b3⟩ := hSw
     go_simp
     try with_reducible rfl
    try simp only [Act.put, yA, yB, yC]
    refine hTk (i := 1) (d := some 107) (v := ?_) (fun o ho => ?_) hHeld ?_
    rotate_left
    ·simp only [zA, zB, zC, zD] at ho
     subst ho
     refine ⟨by rfl, fun w hSw => ?_⟩
     obtain ⟨⟨c4, c5⟩, b0, b1, b2, b3⟩ := hSw
     go_simp
     try with_reducible rfl
    try simp only [Act.put, yA, yB, yC]
    refine hTk (i := 2) (d := some 108) (v := ?_) (fun o ho => ?_) hHeld ?_
    rotate_left
    ·simp only [zA, zB, zC, zD] at ho
     subst ho
     refine ⟨by rfl, fun w hSw => ?_⟩
     (try dsimp only at hSw)
     go_simp
     try with_reducible rfl
    try simp only [Act.put, yA, yB, yC]
    refine wpAnyH_ready (rs := [3]) (by kernel_rfl) (by simp) ?_
    refine held_step (i := 3) (by kernel_rfl) (fun o ho K' hK => ?_) ?_
    ·simp only [zA, zB, zC, zD] at ho
     subst ho
     go_simp
     go_at_call 22
     refine (HRS.out _ _ _ (Ext.trans HQ.out eS) (HGA.out _ (Ext.trans HQ.out eS))).mono ?_
     rintro r w3 ⟨uz, rfl, hz, hbu⟩
     have hy3 : Ext W w3 := Ext.trans (Ext.trans HQ.out eS) hz
     clear hz
     try go_simp
     refine hK.out _ _ ?_ (fun hHeld => ?_)
     ·exact (let q := HF.out _ (hy3); ⟨⟨q.1, q.2.1⟩, q.2.2⟩)
     clear hK K'
     try simp only [yA, yB, yC]
     refine wpAnyH_ready (rs := [4]) (by kernel_rfl) (by simp) ?_
     refine held_step (i := 4) (by kernel_rfl) (fun o ho K' hK => ?_) ?_
     ·simp only [zA, zB, zC, zD] at ho
      subst ho
      go_simp
      go_at_call 15
      refine ((HWH.out _ _ _ (Ext.trans hy3 eS) (hbu.ext eS)).mono (fun e w' q => which_bad (z := 7) (show WhichRes b (restB x gone) _ e w' from q) HW7 (by omega))).mono ?_
      rintro r w4 ⟨rfl, hz⟩
      have hy4 : Ext W w4 := Ext.trans (Ext.trans hy3 eS) hz
      clear hz hbu
      try go_simp
      refine hK.out _ _ ?_ (fun hHeld => ?_)
      ·exact (let q := HF.out _ (hy4); ⟨⟨q.1, q.2.1⟩, q.2.2⟩)
      clear hK K'
      try simp only [yA, yB, yC]
      refine hTk (i := 5) (d := some 105) (v := ?_) (fun o ho => ?_) hHeld ?_
      rotate_left
      ·simp only [zA, zB, zC, zD] at ho
       subst ho
       refine ⟨by rfl, fun w hSw => ?_⟩
       (try dsimp only at hSw)
       go_simp
       try with_reducible rfl
      try simp only [Act.put, yA, yB, yC]
      refine hTk (i := 6) (d := some 111) (v := ?_) (fun o ho => ?_) hHeld ?_
      rotate_left
      ·simp only [zA, zB, zC, zD] at ho
       subst ho
       refine ⟨by rfl, fun w hSw => ?_⟩
       (try dsimp only at hSw)
       go_simp
       try with_reducible rfl
      try simp only [Act.put, yA, yB, yC]
      refine hTk (i := 7) (d := some 112) (v := ?_) (fun o ho => ?_) hHeld ?_
      rotate_left
      ·simp only [zA, zB, zC, zD] at ho
       subst ho
       refine ⟨by rfl, fun w hSw => ?_⟩
       (try dsimp only at hSw)
       go_simp
       try with_reducible rfl
      try simp only [Act.put, yA, yB, yC]
      refine wpAnyH_ready (rs := [8]) (by kernel_rfl) (by simp) ?_
      refine held_step (i := 8) (by kernel_rfl) (fun o ho K' hK => ?_) ?_
      ·simp only [zA, zB, zC, zD] at ho
       subst ho
       go_simp
       refine hK.out _ _ ?_ (fun hHeld => ?_)
       ·exact (let q := HF.out _ (Ext.trans hy4 eS); ⟨⟨q.1, q.2.1⟩, q.2.2⟩)
       clear hK K'
       try simp only [yA, yB, yC]
       refine wpAnyH_ready (rs := [9]) (by kernel_rfl) (by simp) ?_
       refine held_step (i := 9) (by kernel_rfl) (fun o ho K' hK => ?_) ?_
       ·simp only [zA, zB, zC, zD] at ho
        subst ho
        go_simp
        refine hK.out _ _ ?_ (fun hHeld => ?_)
        ·exact (let q := HF.out _ (Ext.trans hy4 eS); ⟨⟨q.1, q.2.1⟩, q.2.2⟩)
        clear hK K'
        try simp only [yA, yB, yC]
        refine wpAnyH_done (by kernel_rfl) ?_ _
        try simp only [yA, yB, yC]
        clear hHeld
        have hq := Ext.trans hy4 eS
        obtain ⟨c4, c5, b0, b1, b2, b3⟩ := HF.out _ hq
        go_wp2_with (first | (go_at_call 13; refine (HKN.out _ hq).mono ?_; rintro e w' ⟨rfl, hx⟩; have hq := hq.trans hx; clear hx; clear c4 c5 b0 b1 b2 b3; obtain ⟨c4, c5, b0, b1, b2, b3⟩ := HF.out _ hq))
        go_ret
        exact ⟨rfl, HX0.out.trans hq⟩
       exact AllReadyH.nil
      exact AllReadyH.nil
     exact AllReadyH.nil
    exact AllReadyH.nil
  ·have d4 : ((gone.length : Int) == ((oddB b x).length : Int)) = false := by simp; omega
   have n4 : (gone.length == (oddB b x).length) = false := by simp; omega
   have m4 : decide (gone.length = (oddB b x).length) = false := by simp; omega
   have HW7 := HLE.out (by unfold ltO; rw [decide_eq_true (show gone.length < (oddB b x).length by omega)]; rfl)
   clear h4 HLE
   go_upto_region 14 with fail
   have HQ := Lib.hid hq
   clear hq c4 c5 b0 b1 b2 b3
   refine wp_region_held_drew (S := (fun W' => (W'.cell? ⟨w.heap.size + 1, 0, none⟩ = some (.int .i64 x.editions) ∧ W'.cell? ⟨w.heap.size + 1, 1, none⟩ = some (.slice la x.letters.length lc)) ∧ BoxAt W' w.heap.size (.slice ga b.goods.length gc) b (.slice ea b.entries.length ec))) (by kernel_rfl) ?_ (fun hHeld => ?_)
   ·exact (let q := HF.out _ (Ext.trans HQ.out eS); ⟨⟨q.1, q.2.1⟩, q.2.2⟩)
   refine hTk (i := 0) (d := some 106) (v := ?_) (fun o ho => ?_) hHeld ?_
   rotate_left
   ·simp only [zA, zB, zD] at ho
    subst ho
    refine ⟨by rfl, fun w hSw => ?_⟩
    obtain ⟨⟨c4, c5⟩, b0, b1, b2, b3⟩ := hSw
    go_simp
    try with_reducible rfl
   try simp only [Act.put, yA, yB, yC]
   refine hTk (i := 1) (d := some 107) (v := ?_) (fun o ho => ?_) hHeld ?_
   rotate_left
   ·simp only [zA, zB, zC, zD] at ho
    subst ho
    refine ⟨by rfl, fun w hSw => ?_⟩
    obtain ⟨⟨c4, c5⟩, b0, b1, b2, b3⟩ := hSw
    go_simp
    try with_reducible rfl
   try simp only [Act.put, yA, yB, yC]
   refine hTk (i := 2) (d := some 108) (v := ?_) (fun o ho => ?_) hHeld ?_
   rotate_left
   ·simp only [zA, zB, zC, zD] at ho
    subst ho
    refine ⟨by rfl, fun w hSw => ?_⟩
    (try dsimp only at hSw)
    go_simp
    try with_reducible rfl
   try simp only [Act.put, yA, yB, yC]
   refine wpAnyH_ready (rs := [3]) (by kernel_rfl) (by simp) ?_
   refine held_step (i := 3) (by kernel_rfl) (fun o ho K' hK => ?_) ?_
   ·simp only [zA, zB, zC, zD] at ho
    subst ho
    go_simp
    go_at_call 22
    refine (HRS.out _ _ _ (Ext.trans HQ.out eS) (HGA.out _ (Ext.trans HQ.out eS))).mono ?_
    rintro r w3 ⟨uz, rfl, hz, hbu⟩
    have hy3 : Ext W w3 := Ext.trans (Ext.trans HQ.out eS) hz
    clear hz
    try go_simp
    refine hK.out _ _ ?_ (fun hHeld => ?_)
    ·exact (let q := HF.out _ (hy3); ⟨⟨q.1, q.2.1⟩, q.2.2⟩)
    clear hK K'
    try simp only [yA, yB, yC]
    refine wpAnyH_ready (rs := [4]) (by kernel_rfl) (by simp) ?_
    refine held_step (i := 4) (by kernel_rfl) (fun o ho K' hK => ?_) ?_
    ·simp only [zA, zB, zC, zD] at ho
     subst ho
     go_simp
     go_at_call 15
     refine ((HWH.out _ _ _ (Ext.trans hy3 eS) (hbu.ext eS)).mono (fun e w' q => which_bad (z := 7) (show WhichRes b (restB x gone) _ e w' from q) HW7 (by omega))).mono ?_
     rintro r w4 ⟨rfl, hz⟩
     have hy4 : Ext W w4 := Ext.trans (Ext.trans hy3 eS) hz
     clear hz hbu
     try go_simp
     refine hK.out _ _ ?_ (fun hHeld => ?_)
     ·exact (let q := HF.out _ (hy4); ⟨⟨q.1, q.2.1⟩, q.2.2⟩)
     clear hK K'
     try simp only [yA, yB, yC]
     refine hTk (i := 5) (d := some 105) (v := ?_) (fun o ho => ?_) hHeld ?_
     rotate_left
     ·simp only [zA, zB, zC, zD] at ho
      subst ho
      refine ⟨by rfl, fun w hSw => ?_⟩
      (try dsimp only at hSw)
      go_simp
      try with_reducible rfl
     try simp only [Act.put, yA, yB, yC]
     refine hTk (i := 6) (d := some 111) (v := ?_) (fun o ho => ?_) hHeld ?_
     rotate_left
     ·simp only [zA, zB, zC, zD] at ho
      subst ho
      refine ⟨by rfl, fun w hSw => ?_⟩
      (try dsimp only at hSw)
      go_simp
      try with_reducible rfl
     try simp only [Act.put, yA, yB, yC]
     refine hTk (i := 7) (d := some 112) (v := ?_) (fun o ho => ?_) hHeld ?_
     rotate_left
     ·simp only [zA, zB, zC, zD] at ho
      subst ho
      refine ⟨by rfl, fun w hSw => ?_⟩
      (try dsimp only at hSw)
      go_simp
      try with_reducible rfl
     try simp only [Act.put, yA, yB, yC]
     refine wpAnyH_ready (rs := [8]) (by kernel_rfl) (by simp) ?_
     refine held_step (i := 8) (by kernel_rfl) (fun o ho K' hK => ?_) ?_
     ·simp only [zA, zB, zC, zD] at ho
      subst ho
      go_simp
      refine hK.out _ _ ?_ (fun hHeld => ?_)
      ·exact (let q := HF.out _ (Ext.trans hy4 eS); ⟨⟨q.1, q.2.1⟩, q.2.2⟩)
      clear hK K'
      try simp only [yA, yB, yC]
      refine wpAnyH_ready (rs := [9]) (by kernel_rfl) (by simp) ?_
      refine held_step (i := 9) (by kernel_rfl) (fun o ho K' hK => ?_) ?_
      ·simp only [zA, zB, zC, zD] at ho
       subst ho
       go_simp
       refine hK.out _ _ ?_ (fun hHeld => ?_)
       ·exact (let q := HF.out _ (Ext.trans hy4 eS); ⟨⟨q.1, q.2.1⟩, q.2.2⟩)
       clear hK K'
       try simp only [yA, yB, yC]
       refine wpAnyH_done (by kernel_rfl) ?_ _
       try simp only [yA, yB, yC]
       clear hHeld
       have hq := Ext.trans hy4 eS
       obtain ⟨c4, c5, b0, b1, b2, b3⟩ := HF.out _ hq
       go_wp2_with (first | (go_at_call 13; refine (HKN.out _ hq).mono ?_; rintro e w' ⟨rfl, hx⟩; have hq := hq.trans hx; clear hx; clear c4 c5 b0 b1 b2 b3; obtain ⟨c4, c5, b0, b1, b2, b3⟩ := HF.out _ hq))
       go_ret
       exact ⟨rfl, HX0.out.trans hq⟩
      exact AllReadyH.nil
     exact AllReadyH.nil
    exact AllReadyH.nil
   exact AllReadyH.nil
end Go.Proofs.YtokananogogjaaaGreatDoor
