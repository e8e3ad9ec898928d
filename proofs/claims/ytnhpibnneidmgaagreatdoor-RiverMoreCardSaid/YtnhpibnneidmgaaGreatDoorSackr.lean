/- The reference's Number, Sack; the law's brief. -/
import Derived.Test.YtnhpibnneidmgaaGreatDoorReads
namespace Go.Proofs.YtnhpibnneidmgaaGreatDoor
open Go.RowKit
def numberB (s : Sack) (n : Int) : Bool := inB n 0 ((s.shells.length : Int) - 1)
theorem SackAt.slice {w : World} {v : Value} {s : Sack} (h : SackAt w v s) : ∃ sa sc ta tc, v = .agg #[.slice sa s.shells.length sc, .slice ta s.tests.length tc] ∧ ShellsAt w (.slice sa s.shells.length sc) s.shells ∧ RowOf testC w (.slice ta s.tests.length tc) s.tests := by
 obtain ⟨sv, tv, rfl, h1, h2⟩ := h
 obtain ⟨sa, sc, rfl, _⟩ := h1.open
 obtain ⟨ta, tc, rfl, _⟩ := RowAt.open h2
 exact ⟨sa, sc, ta, tc, rfl, h1, h2⟩
theorem rnumber_any (v : Value) (s : Sack) (n : Int) (w : World) (hs : SackAt w v s) : Calls Tryz.prog 18 #[v, .int .i64 n] w fun e w' => e = .returned (.bool (numberB s n)) ∧ Ext w w' := by
 obtain ⟨sa, sc, ta, tc, rfl, h1, h2⟩ := hs.slice
 obtain ⟨_, _, hv, l1, l2, _⟩ := h1.open
 cases hv
 clear h1 h2 hs
 unfold numberB
 go_enter Tryz.func18, Tryz.ntmps18
 go_wp2_with (go_at_call 48; refine (rin_any _ _ _ _).mono ?_; rintro e w' ⟨rfl, rfl⟩)
 go_ret
 exact ⟨rfl, (Ext.refl w).alloc _⟩
theorem sackB_shell {s : Sack} {k : Nat} {x : Shell} (hk : s.shells[k]? = some x) (h : isShellB x = false) : isSackB s = false := by
 unfold isSackB; rw [any_of_at (fun x => !isShellB x) hk (by rw [h]; rfl)]; simp
theorem sackB_test {s : Sack} {k : Nat} {t : Int × Bool} (hk : s.tests[k]? = some t) (h : numberB s t.1 = false) : isSackB s = false := by
 unfold isSackB; rw [any_of_at (fun (t : Int × Bool) => !inB t.1 0 (s.shells.length - 1)) hk (by unfold numberB at h; rw [h]; rfl)]; simp
set_option maxRecDepth 100000 in
set_option maxHeartbeats 4000000 in
theorem rsack_any (v : Value) (s : Sack) (w : World) (hs : SackAt w v s) : Calls Tryz.prog 16 #[v] w fun e w' => e = .returned (.bool (isSackB s)) ∧ Ext w w' := by
 have HSN := Lib.hid (fun (n : Int) w1 (h : Ext w w1) => rnumber_any v s n w1 (hs.ext h))
 obtain ⟨sa, sc, ta, tc, rfl, h1, h2⟩ := hs.slice
 obtain ⟨_, _, hv, l1, l2, h3⟩ := h1.open
 cases hv
 obtain ⟨_, _, hv, m1, m2, h4⟩ := RowOf.open2 (f := testC) (f0 := fun t => .int .i64 t.1) (f1 := fun t => .bool t.2) (fun _ => rfl) h2
 cases hv
 have HH := Lib.hid h3
 have HT := Lib.hid h4
 have HX0 := Lib.hid ((Ext.refl w).alloc (.cells #[.slice sa s.shells.length sc, .slice ta s.tests.length tc] 28))
 have HS := Lib.hid (fun W (h : Ext (w.alloc (.cells #[.slice sa s.shells.length sc, .slice ta s.tests.length tc] 28)) W) => (⟨h.cell (by go_simp), h.cell (by go_simp)⟩ : W.cell? ⟨w.heap.size, 0, none⟩ = some (.slice sa s.shells.length sc) ∧ W.cell? ⟨w.heap.size, 1, none⟩ = some (.slice ta s.tests.length tc)))
 clear h1 h2 h3 h4 hs
 go_enter Tryz.func16, Tryz.ntmps16
 go_wp2
 go_loopw [3] (fun i wr => ∃ k : Nat, k ≤ s.shells.length ∧ i = .int .i64 k ∧ Hid ((s.shells.take k).any (fun x => !isShellB x) = false) ∧ Ext (w.alloc (.cells #[.slice sa s.shells.length sc, .slice ta s.tests.length tc] 28)) wr) (fun i _ => s.shells.length - (intOf i).toNat)
 case atStart => exact ⟨0, Nat.zero_le _, rfl, by simp [Hid], Ext.refl _⟩
 case round =>
  obtain ⟨k, hk, rfl, hno, hx⟩ := hrel
  obtain ⟨z0, z1⟩ := HS.out _ hx
  by_cases hlt : k < s.shells.length
  ·obtain ⟨b, o, rv, x, rfl, hxk, c0, c1, hi⟩ := HH.out k hlt
   have d0 := (HX0.out.trans hx).cell c0
   have d1 := (HX0.out.trans hx).cell c1
   have x2 : decide ((k : Int) < (s.shells.length : Int)) = true := by simpa using hlt
   have i1 : (0 : Int) ≤ (k : Int) := by omega
   have i2 : (k : Int) < (s.shells.length : Int) := by omega
   have HC := Lib.hid (rshell_any (.agg #[rv, .int .i64 x.off]) x wr ⟨rv, rfl, hi.ext (HX0.out.trans hx)⟩)
   obtain ⟨ra, rc, rfl, _⟩ := hi.open
   clear c0 c1 hi
   cases hsh : isShellB x with
   | true =>
    have HN : Hid ((s.shells.take (k + 1)).any (fun x => !isShellB x) = false) := by
     unfold Hid; rw [any_take_succ _ hxk.out, hno.out, hsh]; rfl
    rw [hsh] at HC
    clear hsh
    go_wp2_with (go_at_call 17; refine HC.out.mono ?_; rintro e w' ⟨rfl, hx1⟩)
    go_roundw
    case rel => exact ⟨k + 1, by omega, by go_num, HN, hx.trans hx1⟩
    case measure => simp [intOf]; omega
   | false =>
    have HN := Lib.hid (sackB_shell hxk.out hsh)
    rw [hsh] at HC
    clear hsh
    go_wp2_with (go_at_call 17; refine HC.out.mono ?_; rintro e w' ⟨rfl, hx1⟩)
    go_ret
    exact ⟨by rw [HN.out] <;> rfl, (HX0.out.trans hx).trans hx1⟩
  ·have x2 : decide ((k : Int) < (s.shells.length : Int)) = false := by simp; omega
   have HN1 := Lib.hid (show s.shells.any (fun x => !isShellB x) = false by have h := hno.out; rwa [List.take_of_length_le (by omega)] at h)
   clear hno
   go_wp2
   go_loopw [4] (fun i wr => ∃ k : Nat, k ≤ s.tests.length ∧ i = .int .i64 k ∧ Hid ((s.tests.take k).any (fun t => !numberB s t.1) = false) ∧ Ext (w.alloc (.cells #[.slice sa s.shells.length sc, .slice ta s.tests.length tc] 28)) wr) (fun i _ => s.tests.length - (intOf i).toNat)
   case atStart => exact ⟨0, Nat.zero_le _, rfl, by simp [Hid], hx⟩
   case round =>
    clear hx z0 z1
    obtain ⟨k, hk, rfl, hno, hx⟩ := hrel
    obtain ⟨z0, z1⟩ := HS.out _ hx
    clear x2
    by_cases hlt : k < s.tests.length
    ·obtain ⟨b, o, t, rfl, hxk, c0, c1⟩ := HT.out k hlt
     have d0 := (HX0.out.trans hx).cell c0
     have x2 : decide ((k : Int) < (s.tests.length : Int)) = true := by simpa using hlt
     have i1 : (0 : Int) ≤ (k : Int) := by omega
     have i2 : (k : Int) < (s.tests.length : Int) := by omega
     obtain ⟨tn, tb⟩ := t
     simp only at c0
     have HF := Lib.hid (fun W (h : Ext wr W) => (⟨(HS.out W (hx.trans h)).1, (HS.out W (hx.trans h)).2, (HX0.out.trans (hx.trans h)).cell c0⟩ : _ ∧ _ ∧ _))
     clear c0 c1 d0
     cases hsh : numberB s tn with
     | true =>
      have HN : Hid ((s.tests.take (k + 1)).any (fun t => !numberB s t.1) = false) := by
       unfold Hid; rw [any_take_succ _ hxk.out, hno.out, hsh]; rfl
      have HC := Lib.hid (fun w1 (h : Ext wr w1) => hsh ▸ HSN.out tn w1 (HX0.out.trans (hx.trans h)))
      clear hsh
      go_upto_region 9 with fail
      refine region_reads (C := fun W => Ext wr W) (by kernel_rfl) (by kernel_rfl) ((Ext.refl wr).drew) ?_
      repeat (first | go_big_quiet_skip | (go_big_quiet_want; go_big_quiet_op; first | go_big_quiet_on | (refine ⟨_, fun W hW => rfl, ?_⟩; go_big_quiet_on)) | (go_big_quiet_want; refine ⟨?_, fun W hW => ?_, ?_⟩; rotate_left; (· (obtain ⟨y0, y1, y2⟩ := HF.out W hW); go_simp; (first | with_reducible rfl | (go_at_call 18; refine (HC.out W hW).mono ?_; rintro e w' ⟨rfl, hx1⟩; constructor; with_reducible rfl; exact hW.trans hx1))); (try simp only [Act.put, yA, yB, yC]); go_big_quiet_on))
      refine wpQuiet_nil ?_
      intro wq hq
      go_wp2
      go_roundw
      case rel => exact ⟨k + 1, by omega, by go_num, HN, hx.trans hq⟩
      case measure => simp [intOf]; omega
     | false =>
      have HN := Lib.hid (sackB_test hxk.out hsh)
      have HC := Lib.hid (fun w1 (h : Ext wr w1) => hsh ▸ HSN.out tn w1 (HX0.out.trans (hx.trans h)))
      clear hsh
      go_upto_region 9 with fail
      refine region_reads (C := fun W => Ext wr W) (by kernel_rfl) (by kernel_rfl) ((Ext.refl wr).drew) ?_
      repeat (first | go_big_quiet_skip | (go_big_quiet_want; go_big_quiet_op; first | go_big_quiet_on | (refine ⟨_, fun W hW => rfl, ?_⟩; go_big_quiet_on)) | (go_big_quiet_want; refine ⟨?_, fun W hW => ?_, ?_⟩; rotate_left; (· (obtain ⟨y0, y1, y2⟩ := HF.out W hW); go_simp; (first | with_reducible rfl | (go_at_call 18; refine (HC.out W hW).mono ?_; rintro e w' ⟨rfl, hx1⟩; constructor; with_reducible rfl; exact hW.trans hx1))); (try simp only [Act.put, yA, yB, yC]); go_big_quiet_on))
      refine wpQuiet_nil ?_
      intro wq hq
      go_wp2
      go_ret
      exact ⟨by rw [HN.out] <;> rfl, (HX0.out.trans hx).trans hq⟩
    ·have x2 : decide ((k : Int) < (s.tests.length : Int)) = false := by simp; omega
     have HN2 := Lib.hid (show s.tests.any (fun t => !numberB s t.1) = false by have h := hno.out; rwa [List.take_of_length_le (by omega)] at h)
     have HN : Hid (isSackB s = (inB s.shells.length 1 4 && decide ((s.tests.length : Int) ≤ 6))) := by
      have h := HN2.out
      unfold numberB at h
      unfold Hid isSackB; rw [HN1.out, h, Bool.eq_iff_iff]; simp
      omega
     cases h1' : inB s.shells.length 1 4 with
     | true =>
      have HI := Lib.hid (fun w1 => h1' ▸ rin_any s.shells.length 1 4 w1)
      rw [h1', Bool.true_and] at HN
      clear h1'
      go_wp2_with (go_at_call 48; refine (HI.out _).mono ?_; rintro e w' ⟨rfl, rfl⟩)
      go_ret
      exact ⟨by rw [HN.out] <;> rfl, HX0.out.trans hx⟩
     | false =>
      have HI := Lib.hid (fun w1 => h1' ▸ rin_any s.shells.length 1 4 w1)
      rw [h1', Bool.false_and] at HN
      clear h1'
      go_wp2_with (go_at_call 48; refine (HI.out _).mono ?_; rintro e w' ⟨rfl, rfl⟩)
      go_ret
      exact ⟨by rw [HN.out] <;> rfl, HX0.out.trans hx⟩
/-! ### The law's brief -/
def briefB (s : Sack) : Bool := !(s.shells.take 7).any (fun x => decide (7 < x.rings.length)) && decide (s.shells.length ≤ 6) && decide (s.tests.length ≤ 8)
set_option maxRecDepth 100000 in
set_option maxHeartbeats 4000000 in
theorem brief_any (v : Value) (s : Sack) (w : World) (hs : SackAt w v s) : Calls Tryz.prog 14 #[v] w fun e w' => e = .returned (.bool (briefB s)) ∧ Ext w w' := by
 obtain ⟨sa, sc, ta, tc, rfl, h1, h2⟩ := hs.slice
 obtain ⟨_, _, hv, l1, l2, h3⟩ := h1.open
 cases hv
 obtain ⟨_, _, hv, m1, m2, _⟩ := RowAt.open h2
 cases hv
 have HH := Lib.hid h3
 have HX0 := Lib.hid ((Ext.refl w).alloc (.cells #[.slice sa s.shells.length sc, .slice ta s.tests.length tc] 28))
 clear h1 h2 h3 hs
 go_enter Tryz.func14, Tryz.ntmps14
 go_wp2
 go_loopw [3] (fun i wr => ∃ k : Nat, k ≤ s.shells.length ∧ k ≤ 7 ∧ i = .int .i64 k ∧ Hid ((s.shells.take k).any (fun x => decide (7 < x.rings.length)) = false) ∧ wr = w.alloc (.cells #[.slice sa s.shells.length sc, .slice ta s.tests.length tc] 28)) (fun i _ => s.shells.length - (intOf i).toNat)
 case atStart => exact ⟨0, Nat.zero_le _, by omega, rfl, by simp [Hid], rfl⟩
 case round =>
  obtain ⟨k, hk, hk6, rfl, hno, rfl⟩ := hrel
  by_cases hlt : k < s.shells.length
  ·have x2 : decide ((k : Int) < (s.shells.length : Int)) = true := by simpa using hlt
   by_cases h6 : k < 7
   ·have x3 : decide ((k : Int) < 7) = true := by simp; omega
    obtain ⟨bb, bo, gv, R, rfl, hR, c0, c1, hg⟩ := HH.out k hlt
    obtain ⟨ga, gc, rfl, g1, g2, _⟩ := hg.open
    have d0 := HX0.out.cell c0
    have i1 : (0 : Int) ≤ (k : Int) := by omega
    have i2 : (k : Int) < (s.shells.length : Int) := by omega
    clear c0 c1 hg
    by_cases h8 : 7 < R.rings.length
    ·have x4 : decide ((7 : Int) < (R.rings.length : Int)) = true := by simp; omega
     have HN : Hid (briefB s = false) := by
      have : (s.shells.take 7).any (fun x => decide (7 < x.rings.length)) = true := any_of_at (fun (x : Shell) => decide (7 < x.rings.length)) (by rw [List.getElem?_take, if_pos h6]; exact hR.out) (by simpa using h8)
      unfold Hid briefB; rw [this]; rfl
     go_wp2_with fail
     go_ret
     exact ⟨by rw [HN.out] <;> rfl, HX0.out⟩
    ·have x4 : decide ((7 : Int) < (R.rings.length : Int)) = false := by simp; omega
     have HN : Hid ((s.shells.take (k + 1)).any (fun x => decide (7 < x.rings.length)) = false) := by
      unfold Hid; rw [any_take_succ _ hR.out, hno.out, decide_eq_false h8]; rfl
     go_wp2_with fail
     go_roundw
     case rel => exact ⟨k + 1, by omega, by omega, by go_num, HN, by trivial⟩
     case measure => simp [intOf]; omega
   ·have x3 : decide ((k : Int) < 7) = false := by simp; omega
    have x4 : decide ((s.shells.length : Int) ≤ 6) = false := by simp; omega
    have HN : Hid (briefB s = false) := by unfold Hid briefB; rw [decide_eq_false (by omega : ¬ s.shells.length ≤ 6)]; simp
    go_wp2_with fail
    go_ret
    exact ⟨by rw [HN.out] <;> rfl, HX0.out⟩
  ·have x2 : decide ((k : Int) < (s.shells.length : Int)) = false := by simp; omega
   have HN : Hid (briefB s = (decide ((s.shells.length : Int) ≤ 6) && decide ((s.tests.length : Int) ≤ 8))) := by
    have h := hno.out
    rw [List.take_of_length_le (by omega)] at h
    unfold Hid briefB
    rw [List.take_of_length_le (by omega), h, Bool.eq_iff_iff]
    simp; omega
   by_cases h5 : s.shells.length ≤ 6
   ·have x4 : decide ((s.shells.length : Int) ≤ 6) = true := by simp; omega
    rw [x4, Bool.true_and] at HN
    go_wp2_with fail
    go_ret
    exact ⟨by rw [HN.out] <;> rfl, HX0.out⟩
   ·have x4 : decide ((s.shells.length : Int) ≤ 6) = false := by simp; omega
    rw [x4, Bool.false_and] at HN
    go_wp2_with fail
    go_ret
    exact ⟨by rw [HN.out] <;> rfl, HX0.out⟩
end Go.Proofs.YtnhpibnneidmgaaGreatDoor
