/- The reference's Number, Sack; the law's brief. -/
import Derived.Test.YtiodjapdiflphaaGreatDoorReads
import Derived.Test.YtiodjapdiflphaaGreatDoorKnown
import Derived.Test.YtiodjapdiflphaaGreatDoorRefa
import Derived.Test.YtiodjapdiflphaaGreatDoorOpq
import Derived.Test.YtiodjapdiflphaaGreatDoorPlainq
import Derived.Test.YtiodjapdiflphaaGreatDoorWeaw
import Derived.Test.YtiodjapdiflphaaGreatDoorClosed
import Derived.Test.YtiodjapdiflphaaGreatDoorStateb
namespace Go.Proofs.YtiodjapdiflphaaGreatDoor
open Go.RowKit
def numberB (s : Sack) (n : Int) : Bool := inB n 0 ((s.shells.length : Int) - 1)
theorem SackAt.slice {w : World} {v : Value} {s : Sack} (h : SackAt w v s) : ∃ sa sc ta tc, v = .agg #[.slice sa s.shells.length sc, .slice ta s.tests.length tc] ∧ ShellsAt w (.slice sa s.shells.length sc) s.shells ∧ RowOf testC w (.slice ta s.tests.length tc) s.tests := by
 obtain ⟨sv, tv, rfl, h1, h2⟩ := h
 obtain ⟨sa, sc, rfl, _⟩ := h1.open
 obtain ⟨ta, tc, rfl, _⟩ := RowAt.open h2
 exact ⟨sa, sc, ta, tc, rfl, h1, h2⟩
theorem rnumber_any (v : Value) (s : Sack) (n : Int) (w : World) (hs : SackAt w v s) : Calls Tryz.prog 17 #[v, .int .i64 n] w fun e w' => e = .returned (.bool (numberB s n)) ∧ Ext w w' := by
 obtain ⟨sa, sc, ta, tc, rfl, h1, h2⟩ := hs.slice
 obtain ⟨_, _, hv, l1, l2, _⟩ := h1.open
 cases hv
 clear h1 h2 hs
 unfold numberB
 go_enter Tryz.func17, Tryz.ntmps17
 go_wp2_with (go_at_call 40; refine (rin_any _ _ _ _).mono ?_; rintro e w' ⟨rfl, rfl⟩)
 go_ret
 exact ⟨rfl, (Ext.refl w).alloc _⟩
theorem sackB_shell {s : Sack} {k : Nat} {x : Shell} (hk : s.shells[k]? = some x) (h : isShellB x = false) : isSackB s = false := by
 unfold isSackB; rw [any_of_at (fun x => !isShellB x) hk (by rw [h]; rfl)]; simp
theorem sackB_test {s : Sack} {k : Nat} {t : Int × Bool} (hk : s.tests[k]? = some t) (h : numberB s t.1 = false) : isSackB s = false := by
 unfold isSackB; rw [any_of_at (fun (t : Int × Bool) => !inB t.1 0 (s.shells.length - 1)) hk (by unfold numberB at h; rw [h]; rfl)]; simp
set_option maxRecDepth 100000 in
set_option maxHeartbeats 4000000 in
theorem rsack_any (v : Value) (s : Sack) (w : World) (hs : SackAt w v s) : Calls Tryz.prog 10 #[v] w fun e w' => e = .returned (.bool (isSackB s)) ∧ Ext w w' := by
 have HSN := Lib.hid (fun (n : Int) w1 (h : Ext w w1) => rnumber_any v s n w1 (hs.ext h))
 obtain ⟨sa, sc, ta, tc, rfl, h1, h2⟩ := hs.slice
 obtain ⟨_, _, hv, l1, l2, h3⟩ := h1.open
 cases hv
 obtain ⟨_, _, hv, m1, m2, h4⟩ := RowOf.open2 (f := testC) (f0 := fun t => .int .i64 t.1) (f1 := fun t => .bool t.2) (fun _ => rfl) h2
 cases hv
 have HH := Lib.hid h3
 have HT := Lib.hid h4
 have HX0 := Lib.hid ((Ext.refl w).alloc (.cells #[.slice sa s.shells.length sc, .slice ta s.tests.length tc] 28))
 have HS := Lib.hid (fun W (h : Ext (w.alloc (.cells #[.slice sa s.shells.length sc, .slice ta s.tests.length tc] 28)) W) => (⟨h.cell (by go_simp), h.cell (by go_simp)⟩ : W.cell? ⟨w.heap.size, 0, none⟩ = some (.slice sa s.shells.length sc) ∧ W.cell? ⟨w.heap.size, 1, none⟩ = some (.slice ta s.tests.length tc)))
 clear h1 h2 h3 h4 hs
 go_enter Tryz.func10, Tryz.ntmps10
 go_wp2
 go_loopw [3] (fun i wr => ∃ k : Nat, k ≤ s.shells.length ∧ i = .int .i64 k ∧ Hid ((s.shells.take k).any (fun x => !isShellB x) = false) ∧ Ext (w.alloc (.cells #[.slice sa s.shells.length sc, .slice ta s.tests.length tc] 28)) wr) (fun i _ => s.shells.length - (intOf i).toNat)
 case atStart => exact ⟨0, Nat.zero_le _, rfl, by simp [Hid], Ext.refl _⟩
 case round =>
  obtain ⟨k, hk, rfl, hno, hx⟩ := hrel
  obtain ⟨z0, z1⟩ := HS.out _ hx
  by_cases hlt : k < s.shells.length
  ·obtain ⟨b, o, rv, x, rfl, hxk, c0, c1, hi⟩ := HH.out k hlt
   have d0 := (HX0.out.trans hx).cell c0
   have d1 := (HX0.out.trans hx).cell c1
   have x2 : decide ((k : Int) < (s.shells.length : Int)) = true := by simpa using hlt
   have i1 : (0 : Int) ≤ (k : Int) := by omega
   have i2 : (k : Int) < (s.shells.length : Int) := by omega
   have HC := Lib.hid (rshell_any (.agg #[rv, .int .i64 x.off]) x wr ⟨rv, rfl, hi.ext (HX0.out.trans hx)⟩)
   obtain ⟨ra, rc, rfl, _⟩ := hi.open
   clear c0 c1 hi
   cases hsh : isShellB x with
   | true =>
    have HN : Hid ((s.shells.take (k + 1)).any (fun x => !isShellB x) = false) := by
     unfold Hid; rw [any_take_succ _ hxk.out, hno.out, hsh]; rfl
    rw [hsh] at HC
    clear hsh
    go_wp2_with (go_at_call 41; refine HC.out.mono ?_; rintro e w' ⟨rfl, hx1⟩)
    go_roundw
    case rel => exact ⟨k + 1, by omega, by go_num, HN, hx.trans hx1⟩
    case measure => simp [intOf]; omega
   | false =>
    have HN := Lib.hid (sackB_shell hxk.out hsh)
    rw [hsh] at HC
    clear hsh
    go_wp2_with (go_at_call 41; refine HC.out.mono ?_; rintro e w' ⟨rfl, hx1⟩)
    go_ret
    exact ⟨by rw [HN.out] <;> rfl, (HX0.out.trans hx).trans hx1⟩
  ·have x2 : decide ((k : Int) < (s.shells.length : Int)) = false := by simp; omega
   have HN1 := Lib.hid (show s.shells.any (fun x => !isShellB x) = false by have h := hno.out; rwa [List.take_of_length_le (by omega)] at h)
   clear hno
   go_wp2
   go_loopw [4] (fun i wr => ∃ k : Nat, k ≤ s.tests.length ∧ i = .int .i64 k ∧ Hid ((s.tests.take k).any (fun t => !numberB s t.1) = false) ∧ Ext (w.alloc (.cells #[.slice sa s.shells.length sc, .slice ta s.tests.length tc] 28)) wr) (fun i _ => s.tests.length - (intOf i).toNat)
   case atStart => exact ⟨0, Nat.zero_le _, rfl, by simp [Hid], hx⟩
   case round =>
    clear hx z0 z1
    obtain ⟨k, hk, rfl, hno, hx⟩ := hrel
    obtain ⟨z0, z1⟩ := HS.out _ hx
    clear x2
    by_cases hlt : k < s.tests.length
    ·obtain ⟨b, o, t, rfl, hxk, c0, c1⟩ := HT.out k hlt
     have d0 := (HX0.out.trans hx).cell c0
     have x2 : decide ((k : Int) < (s.tests.length : Int)) = true := by simpa using hlt
     have i1 : (0 : Int) ≤ (k : Int) := by omega
     have i2 : (k : Int) < (s.tests.length : Int) := by omega
     obtain ⟨tn, tb⟩ := t
     simp only at c0
     have HF := Lib.hid (fun W (h : Ext wr W) => (⟨(HS.out W (hx.trans h)).1, (HS.out W (hx.trans h)).2, (HX0.out.trans (hx.trans h)).cell c0⟩ : _ ∧ _ ∧ _))
     clear c0 c1 d0
     cases hsh : numberB s tn with
     | true =>
      have HN : Hid ((s.tests.take (k + 1)).any (fun t => !numberB s t.1) = false) := by
       unfold Hid; rw [any_take_succ _ hxk.out, hno.out, hsh]; rfl
      have HC := Lib.hid (fun w1 (h : Ext wr w1) => hsh ▸ HSN.out tn w1 (HX0.out.trans (hx.trans h)))
      clear hsh
      go_upto_region 9 with fail
      refine region_reads (C := fun W => Ext wr W) (by kernel_rfl) (by kernel_rfl) ((Ext.refl wr).drew) ?_
      repeat (first | go_big_quiet_skip | (go_big_quiet_want; go_big_quiet_op; first | go_big_quiet_on | (refine ⟨_, fun W hW => rfl, ?_⟩; go_big_quiet_on)) | (go_big_quiet_want; refine ⟨?_, fun W hW => ?_, ?_⟩; rotate_left; (· (obtain ⟨y0, y1, y2⟩ := HF.out W hW); go_simp; (first | with_reducible rfl | (go_at_call 17; refine (HC.out W hW).mono ?_; rintro e w' ⟨rfl, hx1⟩; constructor; with_reducible rfl; exact hW.trans hx1))); (try simp only [Act.put, yA, yB, yC]); go_big_quiet_on))
      refine wpQuiet_nil ?_
      intro wq hq
      go_wp2
      go_roundw
      case rel => exact ⟨k + 1, by omega, by go_num, HN, hx.trans hq⟩
      case measure => simp [intOf]; omega
     | false =>
      have HN := Lib.hid (sackB_test hxk.out hsh)
      have HC := Lib.hid (fun w1 (h : Ext wr w1) => hsh ▸ HSN.out tn w1 (HX0.out.trans (hx.trans h)))
      clear hsh
      go_upto_region 9 with fail
      refine region_reads (C := fun W => Ext wr W) (by kernel_rfl) (by kernel_rfl) ((Ext.refl wr).drew) ?_
      repeat (first | go_big_quiet_skip | (go_big_quiet_want; go_big_quiet_op; first | go_big_quiet_on | (refine ⟨_, fun W hW => rfl, ?_⟩; go_big_quiet_on)) | (go_big_quiet_want; refine ⟨?_, fun W hW => ?_, ?_⟩; rotate_left; (· (obtain ⟨y0, y1, y2⟩ := HF.out W hW); go_simp; (first | with_reducible rfl | (go_at_call 17; refine (HC.out W hW).mono ?_; rintro e w' ⟨rfl, hx1⟩; constructor; with_reducible rfl; exact hW.trans hx1))); (try simp only [Act.put, yA, yB, yC]); go_big_quiet_on))
      refine wpQuiet_nil ?_
      intro wq hq
      go_wp2
      go_ret
      exact ⟨by rw [HN.out] <;> rfl, (HX0.out.trans hx).trans hq⟩
    ·have x2 : decide ((k : Int) < (s.tests.length : Int)) = false := by simp; omega
     have HN2 := Lib.hid (show s.tests.any (fun t => !numberB s t.1) = false by have h := hno.out; rwa [List.take_of_length_le (by omega)] at h)
     have HN : Hid (isSackB s = (inB s.shells.length 1 4 && decide ((s.tests.length : Int) ≤ 6))) := by
      have h := HN2.out
      unfold numberB at h
      unfold Hid isSackB; rw [HN1.out, h, Bool.eq_iff_iff]; simp
      omega
     cases h1' : inB s.shells.length 1 4 with
     | true =>
      have HI := Lib.hid (fun w1 => h1' ▸ rin_any s.shells.length 1 4 w1)
      rw [h1', Bool.true_and] at HN
      clear h1'
      go_wp2_with (go_at_call 40; refine (HI.out _).mono ?_; rintro e w' ⟨rfl, rfl⟩)
      go_ret
      exact ⟨by rw [HN.out] <;> rfl, HX0.out.trans hx⟩
     | false =>
      have HI := Lib.hid (fun w1 => h1' ▸ rin_any s.shells.length 1 4 w1)
      rw [h1', Bool.false_and] at HN
      clear h1'
      go_wp2_with (go_at_call 40; refine (HI.out _).mono ?_; rintro e w' ⟨rfl, rfl⟩)
      go_ret
      exact ⟨by rw [HN.out] <;> rfl, HX0.out.trans hx⟩
/-! ### The law's brief -/
def briefB (s : Sack) : Bool := !(s.shells.take 7).any (fun x => decide (7 < x.rings.length)) && decide (s.shells.length ≤ 6) && decide (s.tests.length ≤ 8)
set_option maxRecDepth 100000 in
set_option maxHeartbeats 4000000 in
theorem brief_any (v : Value) (s : Sack) (w : World) (hs : SackAt w v s) : Calls Tryz.prog 6 #[v] w fun e w' => e = .returned (.bool (briefB s)) ∧ Ext w w' := by
 obtain ⟨sa, sc, ta, tc, rfl, h1, h2⟩ := hs.slice
 obtain ⟨_, _, hv, l1, l2, h3⟩ := h1.open
 cases hv
 obtain ⟨_, _, hv, m1, m2, _⟩ := RowAt.open h2
 cases hv
 have HH := Lib.hid h3
 have HX0 := Lib.hid ((Ext.refl w).alloc (.cells #[.slice sa s.shells.length sc, .slice ta s.tests.length tc] 28))
 clear h1 h2 h3 hs
 go_enter Tryz.func6, Tryz.ntmps6
 go_wp2
 go_loopw [3] (fun i wr => ∃ k : Nat, k ≤ s.shells.length ∧ k ≤ 7 ∧ i = .int .i64 k ∧ Hid ((s.shells.take k).any (fun x => decide (7 < x.rings.length)) = false) ∧ wr = w.alloc (.cells #[.slice sa s.shells.length sc, .slice ta s.tests.length tc] 28)) (fun i _ => s.shells.length - (intOf i).toNat)
 case atStart => exact ⟨0, Nat.zero_le _, by omega, rfl, by simp [Hid], rfl⟩
 case round =>
  obtain ⟨k, hk, hk6, rfl, hno, rfl⟩ := hrel
  by_cases hlt : k < s.shells.length
  ·have x2 : decide ((k : Int) < (s.shells.length : Int)) = true := by simpa using hlt
   by_cases h6 : k < 7
   ·have x3 : decide ((k : Int) < 7) = true := by simp; omega
    obtain ⟨bb, bo, gv, R, rfl, hR, c0, c1, hg⟩ := HH.out k hlt
    obtain ⟨ga, gc, rfl, g1, g2, _⟩ := hg.open
    have d0 := HX0.out.cell c0
    have i1 : (0 : Int) ≤ (k : Int) := by omega
    have i2 : (k : Int) < (s.shells.length : Int) := by omega
    clear c0 c1 hg
    by_cases h8 : 7 < R.rings.length
    ·have x4 : decide ((7 : Int) < (R.rings.length : Int)) = true := by simp; omega
     have HN : Hid (briefB s = false) := by
      have : (s.shells.take 7).any (fun x => decide (7 < x.rings.length)) = true := any_of_at (fun (x : Shell) => decide (7 < x.rings.length)) (by rw [List.getElem?_take, if_pos h6]; exact hR.out) (by simpa using h8)
      unfold Hid briefB; rw [this]; rfl
     go_wp2_with fail
     go_ret
     exact ⟨by rw [HN.out] <;> rfl, HX0.out⟩
    ·have x4 : decide ((7 : Int) < (R.rings.length : Int)) = false := by simp; omega
     have HN : Hid ((s.shells.take (k + 1)).any (fun x => decide (7 < x.rings.length)) = false) := by
      unfold Hid; rw [any_take_succ _ hR.out, hno.out, decide_eq_false h8]; rfl
     go_wp2_with fail
     go_roundw
     case rel => exact ⟨k + 1, by omega, by omega, by go_num, HN, by trivial⟩
     case measure => simp [intOf]; omega
   ·have x3 : decide ((k : Int) < 7) = false := by simp; omega
    have x4 : decide ((s.shells.length : Int) ≤ 6) = false := by simp; omega
    have HN : Hid (briefB s = false) := by unfold Hid briefB; rw [decide_eq_false (by omega : ¬ s.shells.length ≤ 6)]; simp
    go_wp2_with fail
    go_ret
    exact ⟨by rw [HN.out] <;> rfl, HX0.out⟩
  ·have x2 : decide ((k : Int) < (s.shells.length : Int)) = false := by simp; omega
   have HN : Hid (briefB s = (decide ((s.shells.length : Int) ≤ 6) && decide ((s.tests.length : Int) ≤ 8))) := by
    have h := hno.out
    rw [List.take_of_length_le (by omega)] at h
    unfold Hid briefB
    rw [List.take_of_length_le (by omega), h, Bool.eq_iff_iff]
    simp; omega
   by_cases h5 : s.shells.length ≤ 6
   ·have x4 : decide ((s.shells.length : Int) ≤ 6) = true := by simp; omega
    rw [x4, Bool.true_and] at HN
    go_wp2_with fail
    go_ret
    exact ⟨by rw [HN.out] <;> rfl, HX0.out⟩
   ·have x4 : decide ((s.shells.length : Int) ≤ 6) = false := by simp; omega
    rw [x4, Bool.false_and] at HN
    go_wp2_with fail
    go_ret
    exact ⟨by rw [HN.out] <;> rfl, HX0.out⟩
end Go.Proofs.YtiodjapdiflphaaGreatDoor

/- What the laws' walks share; what the program answers of sacks that are as defined. -/
namespace Go.Proofs.YtiodjapdiflphaaGreatDoor
open Go.RowKit
structure LawB (v : Value) (b : Book) (w : World) : Prop where
 known : ∀ w1, Ext w w1 → Calls Tryz.prog 7 #[] w1 (TrueP w1)
 slim : ∀ w1, Ext w w1 → Calls Tryz.prog 5 #[v] w1 fun e w' => e = .returned (.bool (slimB b)) ∧ Ext w1 w'
 book : ∀ w1, Ext w w1 → Calls Tryz.prog 9 #[v] w1 fun e w' => e = .returned (.bool (isBookB b)) ∧ Ext w1 w'
theorem LawB.of {v : Value} {b : Book} {w : World} (hb : BookAt w v b) (ht : TabOk w) : LawB v b w :=
 ⟨fun w1 h => lknown_any w1 (ht.ext h), fun w1 h => slim_any v b w1 (hb.ext h), fun w1 h => rbook_any v b w1 (hb.ext h)⟩
end Go.Proofs.YtiodjapdiflphaaGreatDoor
namespace Go.Proofs.YtiodjapdiflphaaGreatDoor
open Go.RowKit
theorem SpansOff.open {M : Nat → Prop} {w : World} {v : Value} {xss : List (List (Int × Int))} (h : SpansOff M w v xss) : ∃ a c, v = .slice a xss.length c ∧ xss.length ≤ c ∧ c ≤ 9223372036854775807 ∧
  ∀ i, i < xss.length → ∃ b o rv xs, a = some ⟨b, o, none⟩ ∧ Hid (xss[i]? = some xs) ∧ w.cell? ⟨b, o + i, none⟩ = some rv ∧ PairsAt w rv xs := by
 obtain ⟨vs, h1, h2, _, h4⟩ := h
 obtain ⟨a, c, hv, l1, l2, l3⟩ := h2.open
 refine ⟨a, c, hv, l1, l2, fun i hi => ?_⟩
 have hx : vs[i]? = some vs[i] := List.getElem?_eq_getElem (by omega)
 have hxs : xss[i]? = some xss[i] := List.getElem?_eq_getElem hi
 obtain ⟨b, o, ha, hc⟩ := l3 i _ hx
 exact ⟨b, o, vs[i], xss[i], ha, hxs, hc, (h4 i _ _ hx hxs).1⟩
theorem ask_ok {b : Book} {s : Sack} {fine : Bool} (h1 : isBookB b = true) (h2 : isSackB s = true) (h3 : fine = true) (h4 : possB b s = true) : askN b s fine = 0 := by unfold askN askArg; rw [h1, h2, h3, h4]; rfl
theorem ask_rule {b : Book} {s : Sack} {fine : Bool} (h1 : isBookB b = true) (h2 : isSackB s = true) (h3 : fine = true) (h4 : possB b s = false) : askN b s fine = 7 := by unfold askN askArg; rw [h1, h2, h3, h4]; rfl
theorem ask_arg {b : Book} {s : Sack} {fine : Bool} (h : (isBookB b && isSackB s && fine) = false) : askN b s fine = 2 := by unfold askN askArg; rw [h]; rfl
/-- A tuple of a slice and an error. -/
def SliceP (R : World → Value → Prop) (n : Nat) (z : Int) (w : World) (e : Ending) (w' : World) : Prop := ∃ (a : Option Addr) (c : Nat), e = .returned (.tuple #[.slice a n c, .int .i64 z]) ∧ Ext w w' ∧ R w' (.slice a n c)
theorem Origins_ok {bv sv : Value} {b : Book} {s : Sack} {i : Int} {w : World} (hb : BookAt w bv b) (hs : SackAt w sv s) (h : askN b s (inB i 0 (s.shells.length - 1)) = 0) :
  Calls Tryz.prog 14 #[bv, sv, .int .i64 i] w (SliceP (fun w v => PairsAt w v (couldOf b s i.toNat)) (couldOf b s i.toNat).length 0 w) :=
 (Origins_any bv sv b s i w hb hs).mono fun e w' q => by
  obtain ⟨v, h1, h2, h3⟩ := q
  rw [h] at h1
  rw [h, if_pos rfl] at h3
  obtain ⟨a, c, rfl, _⟩ := h3.open
  exact ⟨a, c, h1, h2, h3⟩
theorem Origins_bad {bv sv : Value} {b : Book} {s : Sack} {i : Int} {w : World} (z : Int) (hb : BookAt w bv b) (hs : SackAt w sv s) (h : askN b s (inB i 0 (s.shells.length - 1)) = z) (hz : z ≠ 0) :
  Calls Tryz.prog 14 #[bv, sv, .int .i64 i] w (SliceP (fun w v => PairsAt w v []) 0 z w) :=
 (Origins_any bv sv b s i w hb hs).mono fun e w' q => by
  obtain ⟨v, h1, h2, h3⟩ := q
  rw [h] at h1
  rw [h, if_neg hz] at h3
  obtain ⟨a, c, rfl, _⟩ := h3.open
  exact ⟨a, c, h1, h2, h3⟩
theorem Weather_ok {bv sv : Value} {b : Book} {s : Sack} {w : World} (hb : BookAt w bv b) (hs : SackAt w sv s) (h : askN b s true = 0) :
  Calls Tryz.prog 15 #[bv, sv] w (SliceP (fun w v => SpansOff (fun _ => False) w v (weatherOf b s)) (weatherOf b s).length 0 w) :=
 (Weather_any bv sv b s w hb hs).mono fun e w' q => by
  obtain ⟨v, h1, h2, h3⟩ := q
  rw [h] at h1
  rw [h, if_pos rfl] at h3
  obtain ⟨a, c, rfl, _⟩ := h3.open
  exact ⟨a, c, h1, h2, h3⟩
theorem Weather_bad {bv sv : Value} {b : Book} {s : Sack} {w : World} (z : Int) (hb : BookAt w bv b) (hs : SackAt w sv s) (h : askN b s true = z) (hz : z ≠ 0) :
  Calls Tryz.prog 15 #[bv, sv] w (SliceP (fun w v => SpansOff (fun _ => False) w v []) 0 z w) :=
 (Weather_any bv sv b s w hb hs).mono fun e w' q => by
  obtain ⟨v, h1, h2, h3⟩ := q
  rw [h] at h1
  rw [h, if_neg hz] at h3
  obtain ⟨a, c, rfl, _⟩ := h3.open
  exact ⟨a, c, h1, h2, h3⟩
theorem Closed_ok {bv sv : Value} {b : Book} {s : Sack} {w : World} (hb : BookAt w bv b) (hs : SackAt w sv s) (h : askN b s true = 0) :
  Calls Tryz.prog 16 #[bv, sv] w fun e w' => e = .returned (.tuple #[.agg #[.int .i64 (closedOf b s).1, .int .i64 (closedOf b s).2], .int .i64 0]) ∧ Ext w w' :=
 (Closed_any bv sv b s w hb hs).mono fun e w' q => by unfold ClosedRes at q; rw [h, if_pos rfl, if_pos rfl] at q; exact q
theorem Closed_bad {bv sv : Value} {b : Book} {s : Sack} {w : World} (z : Int) (hb : BookAt w bv b) (hs : SackAt w sv s) (h : askN b s true = z) (hz : z ≠ 0) :
  Calls Tryz.prog 16 #[bv, sv] w fun e w' => e = .returned (.tuple #[.agg #[.int .i64 0, .int .i64 0], .int .i64 z]) ∧ Ext w w' :=
 (Closed_any bv sv b s w hb hs).mono fun e w' q => by unfold ClosedRes at q; rw [h, if_neg hz, if_neg hz] at q; exact q
/-! ### Possible -/
def possArg (b : Book) (s : Sack) : Bool := isBookB b && isSackB s
def PossRes (b : Book) (s : Sack) (w : World) (e : Ending) (w' : World) : Prop := e = .returned (.tuple #[.bool (possArg b s && possB b s), .int .i64 (if possArg b s then 0 else 2)]) ∧ Ext w w'
set_option maxRecDepth 100000 in
set_option maxHeartbeats 4000000 in
theorem Possible_any (bv sv : Value) (b : Book) (s : Sack) (w : World) (hb : BookAt w bv b) (hs : SackAt w sv s) : Calls Tryz.prog 13 #[bv, sv] w (PossRes b s w) := by
 have HB := Lib.hid (fun w1 (h : Ext w w1) => isBook_any bv b w1 (hb.ext h))
 have HK := Lib.hid (fun w1 (h : Ext w w1) => isSack_any sv s w1 (hs.ext h))
 obtain ⟨ra, rc, rfl, hr⟩ := hb.slice
 obtain ⟨sv, tv, rfl, hsh, hte⟩ := hs
 obtain ⟨sa, sc, rfl, _⟩ := hsh.open
 obtain ⟨ta, tc, rfl, _⟩ := RowAt.open hte
 have HP := Lib.hid (fun h1 h2 w1 (h : Ext w w1) => possible_any b s (.slice ra b.rivers.length rc) (.slice sa s.shells.length sc) (.slice ta s.tests.length tc) w1 h1 h2 (hr.ext h) (hsh.ext h) (RowOf.ext hte h))
 unfold sackV at HP
 have HX0 := Lib.hid (((Ext.refl w).alloc _).alloc _ : Ext w ((w.alloc (.cells #[.int .i64 b.years, .slice ra b.rivers.length rc] 24)).alloc (.cells #[.slice sa s.shells.length sc, .slice ta s.tests.length tc] 28)))
 have HS := Lib.hid (fun W (h : Ext ((w.alloc (.cells #[.int .i64 b.years, .slice ra b.rivers.length rc] 24)).alloc (.cells #[.slice sa s.shells.length sc, .slice ta s.tests.length tc] 28)) W) => (⟨h.cell (by go_simp), h.cell (by go_simp), h.cell (by go_simp), h.cell (by go_simp)⟩ :
  W.cell? ⟨w.heap.size, 0, none⟩ = some (.int .i64 b.years) ∧ W.cell? ⟨w.heap.size, 1, none⟩ = some (.slice ra b.rivers.length rc) ∧ W.cell? ⟨w.heap.size + 1, 0, none⟩ = some (.slice sa s.shells.length sc) ∧ W.cell? ⟨w.heap.size + 1, 1, none⟩ = some (.slice ta s.tests.length tc)))
 clear hb hr hsh hte
 cases h1 : isBookB b with
 | false =>
  have HN := Lib.hid (show PossRes b s = fun w e w' => e = .returned (.tuple #[.bool false, .int .i64 2]) ∧ Ext w w' by unfold PossRes possArg; rw [h1]; rfl)
  rw [h1] at HB
  rw [HN.out]
  clear h1
  go_enter Tryz.func13, Tryz.ntmps13
  go_wp2_with (go_at_call 46; refine (HB.out _ HX0.out).mono ?_; rintro e w1 ⟨rfl, hx1⟩)
  refine bodyPost_ret (by simp [results, Tryz.results13, go_sem] <;> rfl) rfl ?_
  exact ⟨rfl, HX0.out.trans hx1⟩
 | true =>
  rw [h1] at HB
  cases h2 : isSackB s with
  | false =>
   have HN := Lib.hid (show PossRes b s = fun w e w' => e = .returned (.tuple #[.bool false, .int .i64 2]) ∧ Ext w w' by unfold PossRes possArg; rw [h1, h2]; rfl)
   rw [h2] at HK
   rw [HN.out]
   clear h1 h2
   go_enter Tryz.func13, Tryz.ntmps13
   go_wp2_with (first | (go_at_call 46; refine (HB.out _ HX0.out).mono ?_; rintro e w1 ⟨rfl, hx1⟩; obtain ⟨z0, z1, z2, z3⟩ := HS.out _ hx1) | (go_at_call 47; refine (HK.out _ (HX0.out.trans hx1)).mono ?_; rintro e w2 ⟨rfl, hx2⟩))
   refine bodyPost_ret (by simp [results, Tryz.results13, go_sem] <;> rfl) rfl ?_
   exact ⟨rfl, (HX0.out.trans hx1).trans hx2⟩
  | true =>
   have HN := Lib.hid (show PossRes b s = fun w e w' => e = .returned (.tuple #[.bool (possB b s), .int .i64 0]) ∧ Ext w w' by unfold PossRes possArg; rw [h1, h2]; rfl)
   rw [h2] at HK
   have HP2 := Lib.hid (fun w1 (h : Ext w w1) => HP.out (bookB_of h1) (sackB_of h2) w1 h)
   rw [HN.out]
   clear h1 h2
   go_enter Tryz.func13, Tryz.ntmps13
   go_wp2_with (first | (go_at_call 46; refine (HB.out _ HX0.out).mono ?_; rintro e w1 ⟨rfl, hx1⟩; obtain ⟨z0, z1, z2, z3⟩ := HS.out _ hx1) | (go_at_call 47; refine (HK.out _ (HX0.out.trans hx1)).mono ?_; rintro e w2 ⟨rfl, hx2⟩; clear z0 z1 z2 z3; obtain ⟨z0, z1, z2, z3⟩ := HS.out _ (hx1.trans hx2)) | (go_at_call 48; refine (HP2.out _ (HX0.out.trans (hx1.trans hx2))).mono ?_; rintro e w3 ⟨rfl, hx3⟩))
   refine bodyPost_ret (by simp [results, Tryz.results13, go_sem] <;> rfl) rfl ?_
   exact ⟨rfl, HX0.out.trans ((hx1.trans hx2).trans hx3)⟩
theorem Possible_ok {bv sv : Value} {b : Book} {s : Sack} {w : World} (hb : BookAt w bv b) (hs : SackAt w sv s) (h1 : isBookB b = true) (h2 : isSackB s = true) :
  Calls Tryz.prog 13 #[bv, sv] w fun e w' => e = .returned (.tuple #[.bool (possB b s), .int .i64 0]) ∧ Ext w w' :=
 (Possible_any bv sv b s w hb hs).mono fun e w' q => by unfold PossRes possArg at q; rw [h1, h2] at q; exact q
theorem Possible_bad {bv sv : Value} {b : Book} {s : Sack} {w : World} (hb : BookAt w bv b) (hs : SackAt w sv s) (h : (isBookB b && isSackB s) = false) :
  Calls Tryz.prog 13 #[bv, sv] w fun e w' => e = .returned (.tuple #[.bool false, .int .i64 2]) ∧ Ext w w' :=
 (Possible_any bv sv b s w hb hs).mono fun e w' q => by unfold PossRes possArg at q; rw [h] at q; exact q
end Go.Proofs.YtiodjapdiflphaaGreatDoor

/- The reference's Closed. -/
namespace Go.Proofs.YtiodjapdiflphaaGreatDoor
open Go.RowKit
set_option maxRecDepth 100000 in
set_option maxHeartbeats 2000000 in
theorem rclosed_any (v : Value) (b : Book) (r y : Nat) (w : World) (hb : BookAt w v b) (hB : BookB b) (hr : r < b.rivers.length) (hy : (y : Int) < b.years) :
  Calls Tryz.prog 79 #[v, .agg #[.int .i64 (r : Int), .int .i64 (y : Int)]] w fun e w' => e = .returned (.bool (closedB b ((r : Int), (y : Int)))) ∧ Ext w w' := by
 obtain ⟨ra, rc, rfl, hr0⟩ := hb.slice
 obtain ⟨_, _, hvr, r1, r2, r3⟩ := hr0.open
 cases hvr
 obtain ⟨rb, ro, gv, R, rfl, hR, c0, c1, c2, hg⟩ := r3 r hr
 obtain ⟨ga, gc, rfl, _⟩ := hg.open
 have hcl := hB.closed R (List.mem_of_getElem? hR.out)
 have hp : (2 : Int) ^ b.years.toNat ≤ 64 := by
  have h := hB.y1
  have h6 := hB.y2
  rcases (by omega : b.years.toNat = 1 ∨ b.years.toNat = 2 ∨ b.years.toNat = 3 ∨ b.years.toNat = 4 ∨ b.years.toNat = 5 ∨ b.years.toNat = 6) with h | h | h | h | h | h <;> rw [h] <;> decide
 obtain ⟨c, hc⟩ : ∃ c : Nat, R.closed = c := ⟨R.closed.toNat, by omega⟩
 have hcb := closedB_nat (y := y) hR.out hc
 have hc64 : c < 64 := by omega
 have hbt := (has_bits c y (by omega)).trans hcb.symm
 rw [hc] at c2
 have HX0 := Lib.hid (((Ext.refl w).alloc _).alloc _ : Ext w ((w.alloc (.cells #[.int .i64 b.years, .slice (some ⟨rb, ro, none⟩) b.rivers.length rc] 24)).alloc (.cells #[.int .i64 (r : Int), .int .i64 (y : Int)] 84)))
 have d2 := HX0.out.cell c2
 have y6 : (y : Int) < 64 := by have := hB.y2; omega
 have i1 : (0 : Int) ≤ (r : Int) := by omega
 have i2 : (r : Int) < (b.rivers.length : Int) := by omega
 clear hb hr0 r3 c0 c1 c2 hg hcl hp hcb hc hR hB
 go_enter Tryz.func79, Tryz.ntmps79
 go_upto_region 1 with fail
 go_quiet (fail)
 go_wp2
 go_ret
 exact ⟨rfl, HX0.out.drewN _⟩
end Go.Proofs.YtiodjapdiflphaaGreatDoor

/- The reference's told. -/
namespace Go.Proofs.YtiodjapdiflphaaGreatDoor
open Go.RowKit
theorem tested_step {b : Book} {ts : List (Int × Bool)} {i : Nat} {o : Org} {k : Nat} {t : Int × Bool} (h : (ts.take k).any (fun t => decide (t.1 = (i : Int)) && (t.2 != closedB b o)) = false) (ht : ts[k]? = some t) (hq : (decide (t.1 = (i : Int)) && (t.2 != closedB b o)) = false) :
  (ts.take (k + 1)).any (fun t => decide (t.1 = (i : Int)) && (t.2 != closedB b o)) = false := by rw [any_take_succ _ ht, h, hq]; rfl
theorem tested_bad {b : Book} {ts : List (Int × Bool)} {i : Nat} {o : Org} {k : Nat} {t : Int × Bool} (ht : ts[k]? = some t) (hq : (decide (t.1 = (i : Int)) && (t.2 != closedB b o)) = true) : testedB b ts i o = false := by
 unfold testedB; rw [any_of_at (fun t => decide (t.1 = (i : Int)) && (t.2 != closedB b o)) ht hq]; rfl
set_option maxRecDepth 100000 in
set_option maxHeartbeats 4000000 in
theorem rtold_any (bv sv : Value) (b : Book) (s : Sack) (i r y : Nat) (w : World) (hb : BookAt w bv b) (hB : BookB b) (hs : SackAt w sv s) (hr : r < b.rivers.length) (hy : (y : Int) < b.years) :
  Calls Tryz.prog 78 #[bv, sv, .int .i64 (i : Int), .agg #[.int .i64 (r : Int), .int .i64 (y : Int)]] w fun e w' => e = .returned (.bool (testedB b s.tests i ((r : Int), (y : Int)))) ∧ Ext w w' := by
 have HC := Lib.hid (fun w1 (h : Ext w w1) => rclosed_any bv b r y w1 (hb.ext h) hB hr hy)
 obtain ⟨ra, rc, rfl, _⟩ := hb.slice
 obtain ⟨sa, sc, ta, tc, rfl, _, hte⟩ := hs.slice
 obtain ⟨_, _, hv, m1, m2, h4⟩ := RowOf.open2 (f := testC) (f0 := fun t => .int .i64 t.1) (f1 := fun t => .bool t.2) (fun _ => rfl) hte
 cases hv
 have HT := Lib.hid h4
 obtain ⟨W0, hW0⟩ : ∃ W0, W0 = ((w.alloc (.cells #[.int .i64 b.years, .slice ra b.rivers.length rc] 24)).alloc (.cells #[.slice sa s.shells.length sc, .slice ta s.tests.length tc] 28)).alloc (.cells #[.int .i64 (r : Int), .int .i64 (y : Int)] 84) := ⟨_, rfl⟩
 have HX0 := Lib.hid (show Ext w W0 by rw [hW0]; exact (((Ext.refl w).alloc _).alloc _).alloc _)
 have HS := Lib.hid (fun W (h : Ext W0 W) => (⟨h.cell (by rw [hW0]; go_simp), h.cell (by rw [hW0]; go_simp), h.cell (by rw [hW0]; go_simp), h.cell (by rw [hW0]; go_simp), h.cell (by rw [hW0]; go_simp)⟩ :
  W.cell? ⟨w.heap.size, 0, none⟩ = some (.int .i64 b.years) ∧ W.cell? ⟨w.heap.size, 1, none⟩ = some (.slice ra b.rivers.length rc) ∧ W.cell? ⟨w.heap.size + 1, 1, none⟩ = some (.slice ta s.tests.length tc) ∧ W.cell? ⟨w.heap.size + 2, 0, none⟩ = some (.int .i64 (r : Int)) ∧ W.cell? ⟨w.heap.size + 2, 1, none⟩ = some (.int .i64 (y : Int))))
 clear hb hs hte h4 hB hr hy
 go_enter Tryz.func78, Tryz.ntmps78
 go_upto_region 1 with fail
 rw [← hW0]
 clear hW0
 go_wp2
 go_loopw [9] (fun j wr => ∃ k : Nat, k ≤ s.tests.length ∧ j = .int .i64 k ∧ Hid ((s.tests.take k).any (fun t => decide (t.1 = (i : Int)) && (t.2 != closedB b ((r : Int), (y : Int)))) = false) ∧ Ext W0 wr) (fun j _ => s.tests.length - (intOf j).toNat)
 case atStart => exact ⟨0, Nat.zero_le _, rfl, by simp [Hid], Ext.refl _⟩
 case round =>
  obtain ⟨k, hk, rfl, hno, hx⟩ := hrel
  obtain ⟨z0, z1, z2, z3, z4⟩ := HS.out _ hx
  by_cases hlt : k < s.tests.length
  ·obtain ⟨tb, tf, t, rfl, hxk, c0, c1⟩ := HT.out k hlt
   have x2 : decide ((k : Int) < (s.tests.length : Int)) = true := by simpa using hlt
   have i1 : (0 : Int) ≤ (k : Int) := by omega
   have i2 : (k : Int) < (s.tests.length : Int) := by omega
   obtain ⟨tn, tc2⟩ := t
   simp only at c0 c1
   have HF := Lib.hid (fun W (h : Ext wr W) => (⟨HS.out W (hx.trans h), (HX0.out.trans (hx.trans h)).cell c0, (HX0.out.trans (hx.trans h)).cell c1⟩ : _ ∧ _ ∧ _))
   have HCW := Lib.hid (fun W (h : Ext wr W) => HC.out W (HX0.out.trans (hx.trans h)))
   clear c0 c1
   by_cases he : tn = (i : Int)
   ·have t1 : (tn == (i : Int)) = true := by rw [beq_iff_eq]; exact he
    cases hcb : closedB b ((r : Int), (y : Int)) with
    | true =>
     rw [hcb] at HCW
     cases tc2 with
     | true =>
      have HN : Hid ((s.tests.take (k + 1)).any (fun t => decide (t.1 = (i : Int)) && (t.2 != true)) = false) := by have h := tested_step hno.out hxk.out (by rw [hcb]; simp); rw [hcb] at h; exact h
      clear he hcb
      go_upto_region 4 with fail
      refine region_reads (C := fun W => Ext wr W) (by kernel_rfl) (by kernel_rfl) ((Ext.refl wr).drew) ?_
      repeat (first | go_big_quiet_skip | (go_big_quiet_want; go_big_quiet_op; first | go_big_quiet_on | (refine ⟨_, fun W hW => rfl, ?_⟩; go_big_quiet_on)) | (go_big_quiet_want; refine ⟨?_, fun W hW => ?_, ?_⟩; rotate_left; (· (obtain ⟨⟨z0, z1, z2, z3, z4⟩, y0, y1⟩ := HF.out W hW); go_simp; (first | with_reducible rfl | (go_at_call 79; refine (HCW.out W hW).mono ?_; rintro e w' ⟨rfl, hx1⟩; constructor; with_reducible rfl; exact hW.trans hx1))); (try simp only [Act.put, yA, yB, yC]); go_big_quiet_on))
      refine wpQuiet_nil ?_
      intro wq hq
      go_wp2
      go_roundw
      case rel => exact ⟨k + 1, by omega, by go_num, HN, hx.trans hq⟩
      case measure => simp [intOf]; omega
     | false =>
      have HN := Lib.hid (tested_bad hxk.out (by rw [decide_eq_true he, hcb]; rfl))
      clear he hcb
      go_upto_region 4 with fail
      refine region_reads (C := fun W => Ext wr W) (by kernel_rfl) (by kernel_rfl) ((Ext.refl wr).drew) ?_
      repeat (first | go_big_quiet_skip | (go_big_quiet_want; go_big_quiet_op; first | go_big_quiet_on | (refine ⟨_, fun W hW => rfl, ?_⟩; go_big_quiet_on)) | (go_big_quiet_want; refine ⟨?_, fun W hW => ?_, ?_⟩; rotate_left; (· (obtain ⟨⟨z0, z1, z2, z3, z4⟩, y0, y1⟩ := HF.out W hW); go_simp; (first | with_reducible rfl | (go_at_call 79; refine (HCW.out W hW).mono ?_; rintro e w' ⟨rfl, hx1⟩; constructor; with_reducible rfl; exact hW.trans hx1))); (try simp only [Act.put, yA, yB, yC]); go_big_quiet_on))
      refine wpQuiet_nil ?_
      intro wq hq
      go_wp2
      go_ret
      exact ⟨by rw [HN.out] <;> rfl, HX0.out.trans (hx.trans hq)⟩
    | false =>
     rw [hcb] at HCW
     cases tc2 with
     | true =>
      have HN := Lib.hid (tested_bad hxk.out (by rw [decide_eq_true he, hcb]; rfl))
      clear he hcb
      go_upto_region 4 with fail
      refine region_reads (C := fun W => Ext wr W) (by kernel_rfl) (by kernel_rfl) ((Ext.refl wr).drew) ?_
      repeat (first | go_big_quiet_skip | (go_big_quiet_want; go_big_quiet_op; first | go_big_quiet_on | (refine ⟨_, fun W hW => rfl, ?_⟩; go_big_quiet_on)) | (go_big_quiet_want; refine ⟨?_, fun W hW => ?_, ?_⟩; rotate_left; (· (obtain ⟨⟨z0, z1, z2, z3, z4⟩, y0, y1⟩ := HF.out W hW); go_simp; (first | with_reducible rfl | (go_at_call 79; refine (HCW.out W hW).mono ?_; rintro e w' ⟨rfl, hx1⟩; constructor; with_reducible rfl; exact hW.trans hx1))); (try simp only [Act.put, yA, yB, yC]); go_big_quiet_on))
      refine wpQuiet_nil ?_
      intro wq hq
      go_wp2
      go_ret
      exact ⟨by rw [HN.out] <;> rfl, HX0.out.trans (hx.trans hq)⟩
     | false =>
      have HN : Hid ((s.tests.take (k + 1)).any (fun t => decide (t.1 = (i : Int)) && (t.2 != false)) = false) := by have h := tested_step hno.out hxk.out (by rw [hcb]; simp); rw [hcb] at h; exact h
      clear he hcb
      go_upto_region 4 with fail
      refine region_reads (C := fun W => Ext wr W) (by kernel_rfl) (by kernel_rfl) ((Ext.refl wr).drew) ?_
      repeat (first | go_big_quiet_skip | (go_big_quiet_want; go_big_quiet_op; first | go_big_quiet_on | (refine ⟨_, fun W hW => rfl, ?_⟩; go_big_quiet_on)) | (go_big_quiet_want; refine ⟨?_, fun W hW => ?_, ?_⟩; rotate_left; (· (obtain ⟨⟨z0, z1, z2, z3, z4⟩, y0, y1⟩ := HF.out W hW); go_simp; (first | with_reducible rfl | (go_at_call 79; refine (HCW.out W hW).mono ?_; rintro e w' ⟨rfl, hx1⟩; constructor; with_reducible rfl; exact hW.trans hx1))); (try simp only [Act.put, yA, yB, yC]); go_big_quiet_on))
      refine wpQuiet_nil ?_
      intro wq hq
      go_wp2
      go_roundw
      case rel => exact ⟨k + 1, by omega, by go_num, HN, hx.trans hq⟩
      case measure => simp [intOf]; omega
   ·have t1 : (tn == (i : Int)) = false := by rw [beq_eq_false_iff_ne]; exact he
    have HN : Hid ((s.tests.take (k + 1)).any (fun t => decide (t.1 = (i : Int)) && (t.2 != closedB b ((r : Int), (y : Int)))) = false) := tested_step hno.out hxk.out (by rw [decide_eq_false he]; rfl)
    clear he
    go_upto_region 4 with fail
    refine region_reads (C := fun W => Ext wr W) (by kernel_rfl) (by kernel_rfl) ((Ext.refl wr).drew) ?_
    repeat (first | go_big_quiet_skip | (go_big_quiet_want; go_big_quiet_op; first | go_big_quiet_on | (refine ⟨_, fun W hW => rfl, ?_⟩; go_big_quiet_on)) | (go_big_quiet_want; refine ⟨?_, fun W hW => ?_, ?_⟩; rotate_left; (· (obtain ⟨⟨z0, z1, z2, z3, z4⟩, y0, y1⟩ := HF.out W hW); go_simp; (first | with_reducible rfl | (go_at_call 79; refine (HCW.out W hW).mono ?_; rintro e w' ⟨rfl, hx1⟩; constructor; with_reducible rfl; exact hW.trans hx1))); (try simp only [Act.put, yA, yB, yC]); go_big_quiet_on))
    refine wpQuiet_nil ?_
    intro wq hq
    go_wp2
    go_roundw
    case rel => exact ⟨k + 1, by omega, by go_num, HN, hx.trans hq⟩
    case measure => simp [intOf]; omega
  ·have x2 : decide ((k : Int) < (s.tests.length : Int)) = false := by simp; omega
   have HN : Hid (testedB b s.tests i ((r : Int), (y : Int)) = true) := by
    have h := hno.out
    rw [List.take_of_length_le (by omega)] at h
    unfold Hid testedB; rw [h]; rfl
   go_wp2
   go_ret
   exact ⟨by rw [HN.out] <;> rfl, HX0.out.trans hx⟩
end Go.Proofs.YtiodjapdiflphaaGreatDoor
