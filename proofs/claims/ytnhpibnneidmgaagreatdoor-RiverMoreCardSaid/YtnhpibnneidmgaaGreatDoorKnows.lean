/- What the laws' walks share; what the program answers of sacks that are as defined. -/
import Derived.Test.YtnhpibnneidmgaaGreatDoorKnown
import Derived.Test.YtnhpibnneidmgaaGreatDoorRefa
import Derived.Test.YtnhpibnneidmgaaGreatDoorOpen
import Derived.Test.YtnhpibnneidmgaaGreatDoorOnep
import Derived.Test.YtnhpibnneidmgaaGreatDoorWeaw
import Derived.Test.YtnhpibnneidmgaaGreatDoorClosed
import Derived.Test.YtnhpibnneidmgaaGreatDoorSackr
namespace Go.Proofs.YtnhpibnneidmgaaGreatDoor
open Go.RowKit
structure LawB (v : Value) (b : Book) (w : World) : Prop where
 known : ∀ w1, Ext w w1 → Calls Tryz.prog 19 #[] w1 (TrueP w1)
 slim : ∀ w1, Ext w w1 → Calls Tryz.prog 13 #[v] w1 fun e w' => e = .returned (.bool (slimB b)) ∧ Ext w1 w'
 book : ∀ w1, Ext w w1 → Calls Tryz.prog 15 #[v] w1 fun e w' => e = .returned (.bool (isBookB b)) ∧ Ext w1 w'
theorem LawB.of {v : Value} {b : Book} {w : World} (hb : BookAt w v b) (ht : TabOk w) : LawB v b w :=
 ⟨fun w1 h => lknown_any w1 (ht.ext h), fun w1 h => slim_any v b w1 (hb.ext h), fun w1 h => rbook_any v b w1 (hb.ext h)⟩
end Go.Proofs.YtnhpibnneidmgaaGreatDoor
namespace Go.Proofs.YtnhpibnneidmgaaGreatDoor
open Go.RowKit
theorem SpansOff.open {M : Nat → Prop} {w : World} {v : Value} {xss : List (List (Int × Int))} (h : SpansOff M w v xss) : ∃ a c, v = .slice a xss.length c ∧ xss.length ≤ c ∧ c ≤ 9223372036854775807 ∧
  ∀ i, i < xss.length → ∃ b o rv xs, a = some ⟨b, o, none⟩ ∧ Hid (xss[i]? = some xs) ∧ w.cell? ⟨b, o + i, none⟩ = some rv ∧ PairsAt w rv xs := by
 obtain ⟨vs, h1, h2, _, h4⟩ := h
 obtain ⟨a, c, hv, l1, l2, l3⟩ := h2.open
 refine ⟨a, c, hv, l1, l2, fun i hi => ?_⟩
 have hx : vs[i]? = some vs[i] := List.getElem?_eq_getElem (by omega)
 have hxs : xss[i]? = some xss[i] := List.getElem?_eq_getElem hi
 obtain ⟨b, o, ha, hc⟩ := l3 i _ hx
 exact ⟨b, o, vs[i], xss[i], ha, hxs, hc, (h4 i _ _ hx hxs).1⟩
theorem ask_ok {b : Book} {s : Sack} {fine : Bool} (h1 : isBookB b = true) (h2 : isSackB s = true) (h3 : fine = true) (h4 : possB b s = true) : askN b s fine = 0 := by unfold askN askArg; rw [h1, h2, h3, h4]; rfl
theorem ask_rule {b : Book} {s : Sack} {fine : Bool} (h1 : isBookB b = true) (h2 : isSackB s = true) (h3 : fine = true) (h4 : possB b s = false) : askN b s fine = 7 := by unfold askN askArg; rw [h1, h2, h3, h4]; rfl
theorem ask_arg {b : Book} {s : Sack} {fine : Bool} (h : (isBookB b && isSackB s && fine) = false) : askN b s fine = 2 := by unfold askN askArg; rw [h]; rfl
/-- A tuple of a slice and an error. -/
def SliceP (R : World → Value → Prop) (n : Nat) (z : Int) (w : World) (e : Ending) (w' : World) : Prop := ∃ (a : Option Addr) (c : Nat), e = .returned (.tuple #[.slice a n c, .int .i64 z]) ∧ Ext w w' ∧ R w' (.slice a n c)
theorem Origins_ok {bv sv : Value} {b : Book} {s : Sack} {i : Int} {w : World} (hb : BookAt w bv b) (hs : SackAt w sv s) (h : askN b s (inB i 0 (s.shells.length - 1)) = 0) :
  Calls Tryz.prog 20 #[bv, sv, .int .i64 i] w (SliceP (fun w v => PairsAt w v (couldOf b s i.toNat)) (couldOf b s i.toNat).length 0 w) :=
 (Origins_any bv sv b s i w hb hs).mono fun e w' q => by
  obtain ⟨v, h1, h2, h3⟩ := q
  rw [h] at h1
  rw [h, if_pos rfl] at h3
  obtain ⟨a, c, rfl, _⟩ := h3.open
  exact ⟨a, c, h1, h2, h3⟩
theorem Origins_bad {bv sv : Value} {b : Book} {s : Sack} {i : Int} {w : World} (z : Int) (hb : BookAt w bv b) (hs : SackAt w sv s) (h : askN b s (inB i 0 (s.shells.length - 1)) = z) (hz : z ≠ 0) :
  Calls Tryz.prog 20 #[bv, sv, .int .i64 i] w (SliceP (fun w v => PairsAt w v []) 0 z w) :=
 (Origins_any bv sv b s i w hb hs).mono fun e w' q => by
  obtain ⟨v, h1, h2, h3⟩ := q
  rw [h] at h1
  rw [h, if_neg hz] at h3
  obtain ⟨a, c, rfl, _⟩ := h3.open
  exact ⟨a, c, h1, h2, h3⟩
theorem Weather_ok {bv sv : Value} {b : Book} {s : Sack} {w : World} (hb : BookAt w bv b) (hs : SackAt w sv s) (h : askN b s true = 0) :
  Calls Tryz.prog 23 #[bv, sv] w (SliceP (fun w v => SpansOff (fun _ => False) w v (weatherOf b s)) (weatherOf b s).length 0 w) :=
 (Weather_any bv sv b s w hb hs).mono fun e w' q => by
  obtain ⟨v, h1, h2, h3⟩ := q
  rw [h] at h1
  rw [h, if_pos rfl] at h3
  obtain ⟨a, c, rfl, _⟩ := h3.open
  exact ⟨a, c, h1, h2, h3⟩
theorem Weather_bad {bv sv : Value} {b : Book} {s : Sack} {w : World} (z : Int) (hb : BookAt w bv b) (hs : SackAt w sv s) (h : askN b s true = z) (hz : z ≠ 0) :
  Calls Tryz.prog 23 #[bv, sv] w (SliceP (fun w v => SpansOff (fun _ => False) w v []) 0 z w) :=
 (Weather_any bv sv b s w hb hs).mono fun e w' q => by
  obtain ⟨v, h1, h2, h3⟩ := q
  rw [h] at h1
  rw [h, if_neg hz] at h3
  obtain ⟨a, c, rfl, _⟩ := h3.open
  exact ⟨a, c, h1, h2, h3⟩
theorem Closed_ok {bv sv : Value} {b : Book} {s : Sack} {w : World} (hb : BookAt w bv b) (hs : SackAt w sv s) (h : askN b s true = 0) :
  Calls Tryz.prog 33 #[bv, sv] w fun e w' => e = .returned (.tuple #[.agg #[.int .i64 (closedOf b s).1, .int .i64 (closedOf b s).2], .int .i64 0]) ∧ Ext w w' :=
 (Closed_any bv sv b s w hb hs).mono fun e w' q => by unfold ClosedRes at q; rw [h, if_pos rfl, if_pos rfl] at q; exact q
theorem Closed_bad {bv sv : Value} {b : Book} {s : Sack} {w : World} (z : Int) (hb : BookAt w bv b) (hs : SackAt w sv s) (h : askN b s true = z) (hz : z ≠ 0) :
  Calls Tryz.prog 33 #[bv, sv] w fun e w' => e = .returned (.tuple #[.agg #[.int .i64 0, .int .i64 0], .int .i64 z]) ∧ Ext w w' :=
 (Closed_any bv sv b s w hb hs).mono fun e w' q => by unfold ClosedRes at q; rw [h, if_neg hz, if_neg hz] at q; exact q
/-! ### Possible -/
def possArg (b : Book) (s : Sack) : Bool := isBookB b && isSackB s
def PossRes (b : Book) (s : Sack) (w : World) (e : Ending) (w' : World) : Prop := e = .returned (.tuple #[.bool (possArg b s && possB b s), .int .i64 (if possArg b s then 0 else 2)]) ∧ Ext w w'
set_option maxRecDepth 100000 in
set_option maxHeartbeats 4000000 in
theorem Possible_any (bv sv : Value) (b : Book) (s : Sack) (w : World) (hb : BookAt w bv b) (hs : SackAt w sv s) : Calls Tryz.prog 32 #[bv, sv] w (PossRes b s w) := by
 have HB := Lib.hid (fun w1 (h : Ext w w1) => isBook_any bv b w1 (hb.ext h))
 have HK := Lib.hid (fun w1 (h : Ext w w1) => isSack_any sv s w1 (hs.ext h))
 obtain ⟨ra, rc, rfl, hr⟩ := hb.slice
 obtain ⟨sv, tv, rfl, hsh, hte⟩ := hs
 obtain ⟨sa, sc, rfl, _⟩ := hsh.open
 obtain ⟨ta, tc, rfl, _⟩ := RowAt.open hte
 have HP := Lib.hid (fun h1 h2 w1 (h : Ext w w1) => possible_any b s (.slice ra b.rivers.length rc) (.slice sa s.shells.length sc) (.slice ta s.tests.length tc) w1 h1 h2 (hr.ext h) (hsh.ext h) (RowOf.ext hte h))
 unfold sackV at HP
 have HX0 := Lib.hid (((Ext.refl w).alloc _).alloc _ : Ext w ((w.alloc (.cells #[.int .i64 b.years, .slice ra b.rivers.length rc] 24)).alloc (.cells #[.slice sa s.shells.length sc, .slice ta s.tests.length tc] 28)))
 have HS := Lib.hid (fun W (h : Ext ((w.alloc (.cells #[.int .i64 b.years, .slice ra b.rivers.length rc] 24)).alloc (.cells #[.slice sa s.shells.length sc, .slice ta s.tests.length tc] 28)) W) => (⟨h.cell (by go_simp), h.cell (by go_simp), h.cell (by go_simp), h.cell (by go_simp)⟩ :
  W.cell? ⟨w.heap.size, 0, none⟩ = some (.int .i64 b.years) ∧ W.cell? ⟨w.heap.size, 1, none⟩ = some (.slice ra b.rivers.length rc) ∧ W.cell? ⟨w.heap.size + 1, 0, none⟩ = some (.slice sa s.shells.length sc) ∧ W.cell? ⟨w.heap.size + 1, 1, none⟩ = some (.slice ta s.tests.length tc)))
 clear hb hr hsh hte
 cases h1 : isBookB b with
 | false =>
  have HN := Lib.hid (show PossRes b s = fun w e w' => e = .returned (.tuple #[.bool false, .int .i64 2]) ∧ Ext w w' by unfold PossRes possArg; rw [h1]; rfl)
  rw [h1] at HB
  rw [HN.out]
  clear h1
  go_enter Tryz.func32, Tryz.ntmps32
  go_wp2_with (go_at_call 62; refine (HB.out _ HX0.out).mono ?_; rintro e w1 ⟨rfl, hx1⟩)
  refine bodyPost_ret (by simp [results, Tryz.results32, go_sem] <;> rfl) rfl ?_
  exact ⟨rfl, HX0.out.trans hx1⟩
 | true =>
  rw [h1] at HB
  cases h2 : isSackB s with
  | false =>
   have HN := Lib.hid (show PossRes b s = fun w e w' => e = .returned (.tuple #[.bool false, .int .i64 2]) ∧ Ext w w' by unfold PossRes possArg; rw [h1, h2]; rfl)
   rw [h2] at HK
   rw [HN.out]
   clear h1 h2
   go_enter Tryz.func32, Tryz.ntmps32
   go_wp2_with (first | (go_at_call 62; refine (HB.out _ HX0.out).mono ?_; rintro e w1 ⟨rfl, hx1⟩; obtain ⟨z0, z1, z2, z3⟩ := HS.out _ hx1) | (go_at_call 78; refine (HK.out _ (HX0.out.trans hx1)).mono ?_; rintro e w2 ⟨rfl, hx2⟩))
   refine bodyPost_ret (by simp [results, Tryz.results32, go_sem] <;> rfl) rfl ?_
   exact ⟨rfl, (HX0.out.trans hx1).trans hx2⟩
  | true =>
   have HN := Lib.hid (show PossRes b s = fun w e w' => e = .returned (.tuple #[.bool (possB b s), .int .i64 0]) ∧ Ext w w' by unfold PossRes possArg; rw [h1, h2]; rfl)
   rw [h2] at HK
   have HP2 := Lib.hid (fun w1 (h : Ext w w1) => HP.out (bookB_of h1) (sackB_of h2) w1 h)
   rw [HN.out]
   clear h1 h2
   go_enter Tryz.func32, Tryz.ntmps32
   go_wp2_with (first | (go_at_call 62; refine (HB.out _ HX0.out).mono ?_; rintro e w1 ⟨rfl, hx1⟩; obtain ⟨z0, z1, z2, z3⟩ := HS.out _ hx1) | (go_at_call 78; refine (HK.out _ (HX0.out.trans hx1)).mono ?_; rintro e w2 ⟨rfl, hx2⟩; clear z0 z1 z2 z3; obtain ⟨z0, z1, z2, z3⟩ := HS.out _ (hx1.trans hx2)) | (go_at_call 79; refine (HP2.out _ (HX0.out.trans (hx1.trans hx2))).mono ?_; rintro e w3 ⟨rfl, hx3⟩))
   refine bodyPost_ret (by simp [results, Tryz.results32, go_sem] <;> rfl) rfl ?_
   exact ⟨rfl, HX0.out.trans ((hx1.trans hx2).trans hx3)⟩
theorem Possible_ok {bv sv : Value} {b : Book} {s : Sack} {w : World} (hb : BookAt w bv b) (hs : SackAt w sv s) (h1 : isBookB b = true) (h2 : isSackB s = true) :
  Calls Tryz.prog 32 #[bv, sv] w fun e w' => e = .returned (.tuple #[.bool (possB b s), .int .i64 0]) ∧ Ext w w' :=
 (Possible_any bv sv b s w hb hs).mono fun e w' q => by unfold PossRes possArg at q; rw [h1, h2] at q; exact q
theorem Possible_bad {bv sv : Value} {b : Book} {s : Sack} {w : World} (hb : BookAt w bv b) (hs : SackAt w sv s) (h : (isBookB b && isSackB s) = false) :
  Calls Tryz.prog 32 #[bv, sv] w fun e w' => e = .returned (.tuple #[.bool false, .int .i64 2]) ∧ Ext w w' :=
 (Possible_any bv sv b s w hb hs).mono fun e w' q => by unfold PossRes possArg at q; rw [h] at q; exact q
end Go.Proofs.YtnhpibnneidmgaaGreatDoor
