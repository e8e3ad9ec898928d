/- The law RiverMore. -/
import Derived.Test.YtnhpibnneidmgaaGreatDoorFitp
import Derived.Test.YtnhpibnneidmgaaGreatDoorKnows
namespace Go.Proofs.YtnhpibnneidmgaaGreatDoor
open Go.RowKit
theorem E_shells : Elem Tryz.prog 25 31 2 32 (.agg #[.slice none 0 0, .int .i64 0]) := by
 obtain ⟨i, h1, h2, h3, h4⟩ := info_parts (P := Tryz.prog) (e := 31) (z := .agg #[.slice none 0 0, .int .i64 0]) (size := 2) (bytes := 32) (by kernel_rfl)
 exact ⟨Tryz.underlying25, ⟨i, h1, h2, h3, h4⟩, rfl, by decide⟩
theorem E_tests : Elem Tryz.prog 26 33 2 16 (.agg #[.int .i64 0, .bool false]) := by
 obtain ⟨i, h1, h2, h3, h4⟩ := info_parts (P := Tryz.prog) (e := 33) (z := .agg #[.int .i64 0, .bool false]) (size := 2) (bytes := 16) (by kernel_rfl)
 exact ⟨Tryz.underlying26, ⟨i, h1, h2, h3, h4⟩, rfl, by decide⟩
theorem two_len {α : Type} {f : α → List Value} (hf : ∀ x, (f x).length = 2) (xs : List α) : (xs.flatMap f).length = xs.length * 2 := flat_len f 2 hf xs
theorem tests_one (xs : List (Int × Bool)) : ∀ u, u ∈ xs.flatMap testC → u.oneCell' = true := by
 intro u hu
 obtain ⟨x, _, h⟩ := List.mem_flatMap.1 hu
 unfold testC at h
 simp only [List.mem_cons, List.not_mem_nil, or_false] at h
 rcases h with rfl | rfl <;> rfl
theorem shells_one {w : World} {ps : List (Value × Shell)} (h : ∀ p, p ∈ ps → IntsAt w p.1 p.2.rings) : ∀ u, u ∈ ps.flatMap shellC → u.oneCell' = true := by
 intro u hu
 obtain ⟨x, hx, h'⟩ := List.mem_flatMap.1 hu
 unfold shellC at h'
 simp only [List.mem_cons, List.not_mem_nil, or_false] at h'
 rcases h' with rfl | rfl
 ·obtain ⟨a, c, e, _⟩ := (h x hx).open; rw [e]; rfl
 ·rfl
theorem more_shells {s : Sack} {mo : Shell} (h : isSackB s = true) (h2 : isShellB mo = true) (h4 : s.shells.length < 4) : isSackB ⟨s.shells ++ [mo], s.tests⟩ = true := by
 unfold isSackB at h ⊢
 simp only [Bool.and_eq_true, Bool.not_eq_true'] at h ⊢
 obtain ⟨⟨⟨h1, h3⟩, h5⟩, h6⟩ := h
 refine ⟨⟨⟨?_, h3⟩, ?_⟩, ?_⟩
 ·rw [inB_iff] at h1 ⊢; simp; omega
 ·rw [List.any_append, h5]; simp [h2]
 ·rw [List.any_eq_false] at h6 ⊢
  intro t ht
  have := h6 t ht
  simp [inB] at this ⊢
  omega
theorem more_tests {xs : List Shell} {ts : List (Int × Bool)} {t : Int × Bool} (h : isSackB ⟨xs, ts⟩ = true) (h2 : numberB ⟨xs, ts⟩ t.1 = true) (h6 : ts.length < 6) : isSackB ⟨xs, ts ++ [t]⟩ = true := by
 unfold isSackB numberB at *
 simp only [Bool.and_eq_true, decide_eq_true_eq, Bool.not_eq_true', List.any_append, Bool.or_eq_false_iff] at *
 refine ⟨⟨⟨h.1.1.1, by simp; omega⟩, h.1.2⟩, h.2, ?_⟩
 simp only [List.any_cons, List.any_nil, Bool.or_false, Bool.not_eq_false']
 exact h2
theorem could_none {b : Book} {s : Sack} {i : Nat} (h : possB b s = false) : couldOf b s i = [] := by
 unfold possB at h
 have h2 : truthsOf b s = [] := by cases ht : truthsOf b s with
  | nil => rfl
  | cons => rw [ht] at h; simp at h
 unfold couldOf; rw [h2]; simp
theorem one_sack {sh : Shell} (h : isShellB sh = true) : isSackB (oneOf sh) = true := by
 unfold isSackB oneOf; simp [h, inB]
/-- The error of a sack that is as defined. -/
def pz (b : Book) (s : Sack) : Int := if possB b s then 0 else 7
theorem wea_none {b : Book} {s : Sack} (h : possB b s = false) : weatherOf b s = [] := by
 unfold possB at h
 have h2 : truthsOf b s = [] := by cases ht : truthsOf b s with
  | nil => rfl
  | cons => rw [ht] at h; simp at h
 unfold weatherOf; rw [h2]
theorem Origins_pz {bv sv : Value} {b : Book} {s : Sack} {i : Nat} {w : World} (hb : BookAt w bv b) (hs : SackAt w sv s) (h1 : isBookB b = true) (h2 : isSackB s = true) (hi : i < s.shells.length) :
  Calls Tryz.prog 20 #[bv, sv, .int .i64 (i : Int)] w (SliceP (fun w v => PairsAt w v (couldOf b s i)) (couldOf b s i).length (pz b s) w) := by
 have hin : inB (i : Int) 0 (s.shells.length - 1) = true := by rw [inB_iff]; omega
 unfold pz
 cases hp : possB b s with
 | true => exact Origins_ok (i := (i : Int)) hb hs (ask_ok h1 h2 hin hp)
 | false =>
  have h := Origins_bad (i := (i : Int)) 7 hb hs (ask_rule h1 h2 hin hp) (by decide)
  rw [could_none hp]
  exact h
theorem Weather_pz {bv sv : Value} {b : Book} {s : Sack} {w : World} (hb : BookAt w bv b) (hs : SackAt w sv s) (h1 : isBookB b = true) (h2 : isSackB s = true) :
  Calls Tryz.prog 23 #[bv, sv] w (SliceP (fun w v => SpansOff (fun _ => False) w v (weatherOf b s)) (weatherOf b s).length (pz b s) w) := by
 unfold pz
 cases hp : possB b s with
 | true => exact Weather_ok hb hs (ask_ok h1 h2 rfl hp)
 | false =>
  have h := Weather_bad 7 hb hs (ask_rule h1 h2 rfl hp) (by decide)
  rw [wea_none hp]
  exact h
theorem shells_more {w W : World} {v mv : Value} {ps : List (Value × Shell)} {mo : Shell} (hri : ∀ p, p ∈ ps → IntsAt w p.1 p.2.rings) (hm : IntsAt w mv mo.rings) (hx : Ext w W) (hro : RowOf shellC W v (ps ++ [(mv, mo)])) : ShellsAt W v (ps.map Prod.snd ++ [mo]) :=
 ⟨ps ++ [(mv, mo)], by simp, hro, fun x hx2 => by
  rcases List.mem_append.1 hx2 with h | h
  ·exact (hri x h).ext hx
  ·rw [List.mem_singleton] at h; subst h; exact hm.ext hx⟩
theorem one_shells {w : World} {rv : Value} {sh : Shell} (h : IntsAt w rv sh.rings) (t : TypeId) : ShellsAt (w.alloc (.cells #[rv, .int .i64 sh.off] t)) (.slice (some ⟨w.heap.size, 0, none⟩) 1 1) [sh] :=
 ⟨[(rv, sh)], rfl, RowAt.new1 w #[rv, .int .i64 sh.off] t, fun x hx => by rw [List.mem_singleton] at hx; subst hx; exact h.ext ((Ext.refl w).alloc _)⟩
theorem could_short2 {b : Book} (hB : BookB b) (s : Sack) (i : Nat) : (couldOf b s i).length ≤ 30 := by
 have h1 := List.length_filter_le (fun o => (truthsOf b s).any fun x => orgAt x i == o) (originsOf b (s.shells.getD i ⟨[], 0⟩).rings.length)
 have h2 := originsOf_len hB (s.shells.getD i ⟨[], 0⟩).rings.length
 unfold couldOf; omega
theorem at2_at {p : Rows2} {r y : Nat} {row : List (Int × Int)} {g : Int × Int} (h : p[r]? = some row) (k : row[y]? = some g) : at2 p r y = g := by
 unfold at2; rw [List.getD_eq_getElem?_getD, List.getD_eq_getElem?_getD, h]; show row[y]?.getD (0, 0) = g; rw [k]; rfl
set_option maxRecDepth 100000 in
set_option maxHeartbeats 32000000 in
theorem riverMore_any (bv : Value) (b : Book) (sv : Value) (s : Sack) (mv : Value) (mo : Shell) (tv : Value) (t : Int × Bool) (n : Int) (w : World) (hb : BookAt w bv b) (hs : SackAt w sv s) (hm : ShellAt w mv mo) (htv : tv = .agg #[.int .i64 t.1, .bool t.2]) (ht : TabOk w) :
  Calls Tryz.prog 3 #[bv, sv, mv, tv, .int .i64 n] w (TrueP w) := by
 subst htv
 obtain ⟨t1, t2⟩ := t
 have HB := Lib.hid (LawB.of hb ht)
 have HBW := Lib.hid (fun w1 (h : Ext w w1) => hb.ext h)
 have HSW := Lib.hid (fun w1 (h : Ext w w1) => hs.ext h)
 have HBR := Lib.hid (fun w1 (h : Ext w w1) => brief_any sv s w1 (hs.ext h))
 have HSA := Lib.hid (fun w1 (h : Ext w w1) => rsack_any sv s w1 (hs.ext h))
 have HRS := Lib.hid (fun w1 (h : Ext w w1) => rshell_any mv mo w1 (hm.ext h))
 have HRN := Lib.hid (fun w1 (h : Ext w w1) => rnumber_any sv s n w1 (hs.ext h))
 obtain ⟨ra, rc, rfl, hr⟩ := hb.slice
 obtain ⟨sa, sc, ta, tc, rfl, hsh, hte⟩ := hs.slice
 obtain ⟨_, _, hv, s1, s2, s3⟩ := hsh.open
 cases hv
 obtain ⟨_, _, hv, t1', t2', _⟩ := RowAt.open hte
 cases hv
 obtain ⟨gv, rfl, hmi⟩ := hm
 obtain ⟨ma, mc, rfl, _⟩ := hmi.open
 have S3 := Lib.hid s3
 have HSHL := Lib.hid hsh
 have HTE := Lib.hid hte
 have HMI := Lib.hid hmi
 obtain ⟨W0, hW0⟩ : ∃ W0, W0 = (((w.alloc (.cells #[.int .i64 b.years, .slice ra b.rivers.length rc] 24)).alloc (.cells #[.slice sa s.shells.length sc, .slice ta s.tests.length tc] 28)).alloc (.cells #[.slice ma mo.rings.length mc, .int .i64 mo.off] 31)).alloc (.cells #[.int .i64 t1, .bool t2] 33) := ⟨_, rfl⟩
 have HX0 := Lib.hid (show Ext w W0 by rw [hW0]; exact ((((Ext.refl w).alloc _).alloc _).alloc _).alloc _)
 have HS := Lib.hid (fun W (h : Ext W0 W) => (⟨h.cell (by rw [hW0]; go_simp), h.cell (by rw [hW0]; go_simp), h.cell (by rw [hW0]; go_simp), h.cell (by rw [hW0]; go_simp), h.cell (by rw [hW0]; go_simp), h.cell (by rw [hW0]; go_simp), h.cell (by rw [hW0]; go_simp), h.cell (by rw [hW0]; go_simp)⟩ :
  W.cell? ⟨w.heap.size, 0, none⟩ = some (.int .i64 b.years) ∧ W.cell? ⟨w.heap.size, 1, none⟩ = some (.slice ra b.rivers.length rc) ∧ W.cell? ⟨w.heap.size + 1, 0, none⟩ = some (.slice sa s.shells.length sc) ∧ W.cell? ⟨w.heap.size + 1, 1, none⟩ = some (.slice ta s.tests.length tc) ∧ W.cell? ⟨w.heap.size + 2, 0, none⟩ = some (.slice ma mo.rings.length mc) ∧ W.cell? ⟨w.heap.size + 2, 1, none⟩ = some (.int .i64 mo.off) ∧ W.cell? ⟨w.heap.size + 3, 0, none⟩ = some (.int .i64 t1) ∧ W.cell? ⟨w.heap.size + 3, 1, none⟩ = some (.bool t2)))
 clear hb ht hs hr hsh hte hmi s3
 go_enter Tryz.func3, Tryz.ntmps3
 go_upto_region 1 with fail
 rw [← hW0]
 clear hW0
 have hq := Ext.refl W0
 obtain ⟨z0, z1, z2, z3, z4, z5, z6, z7⟩ := HS.out _ hq
 cases h1 : slimB b with
 | false =>
  have HB1 := Lib.hid (fun w1 (h : Ext w w1) => h1 ▸ HB.out.slim w1 h)
  go_wp2_with (first | (go_at_call 13; refine (HB1.out _ (HX0.out.trans hq)).mono ?_; rintro e w' ⟨rfl, hx1⟩; replace hq := hq.trans hx1; clear hx1 z0 z1 z2 z3 z4 z5 z6 z7; obtain ⟨z0, z1, z2, z3, z4, z5, z6, z7⟩ := HS.out _ hq) | (go_at_call 19; refine (HB.out.known _ (HX0.out.trans hq)).mono ?_; rintro e w' ⟨rfl, hx1⟩; replace hq := hq.trans hx1; clear hx1 z0 z1 z2 z3 z4 z5 z6 z7; obtain ⟨z0, z1, z2, z3, z4, z5, z6, z7⟩ := HS.out _ hq))
  go_ret
  exact ⟨rfl, HX0.out.trans hq⟩
 | true =>
  have HB1 := Lib.hid (fun w1 (h : Ext w w1) => h1 ▸ HB.out.slim w1 h)
  cases h2 : briefB s with
  | false =>
   rw [h2] at HBR
   go_wp2_with (first | (go_at_call 13; refine (HB1.out _ (HX0.out.trans hq)).mono ?_; rintro e w' ⟨rfl, hx1⟩; replace hq := hq.trans hx1; clear hx1 z0 z1 z2 z3 z4 z5 z6 z7; obtain ⟨z0, z1, z2, z3, z4, z5, z6, z7⟩ := HS.out _ hq) | (go_at_call 14; refine (HBR.out _ (HX0.out.trans hq)).mono ?_; rintro e w' ⟨rfl, hx1⟩; replace hq := hq.trans hx1; clear hx1 z0 z1 z2 z3 z4 z5 z6 z7; obtain ⟨z0, z1, z2, z3, z4, z5, z6, z7⟩ := HS.out _ hq) | (go_at_call 19; refine (HB.out.known _ (HX0.out.trans hq)).mono ?_; rintro e w' ⟨rfl, hx1⟩; replace hq := hq.trans hx1; clear hx1 z0 z1 z2 z3 z4 z5 z6 z7; obtain ⟨z0, z1, z2, z3, z4, z5, z6, z7⟩ := HS.out _ hq))
   go_ret
   exact ⟨rfl, HX0.out.trans hq⟩
  | true =>
   rw [h2] at HBR
   by_cases h3 : 7 < mo.rings.length
   ·have t7 : decide ((7 : Int) < (mo.rings.length : Int)) = true := by simp; omega
    go_wp2_with (first | (go_at_call 13; refine (HB1.out _ (HX0.out.trans hq)).mono ?_; rintro e w' ⟨rfl, hx1⟩; replace hq := hq.trans hx1; clear hx1 z0 z1 z2 z3 z4 z5 z6 z7; obtain ⟨z0, z1, z2, z3, z4, z5, z6, z7⟩ := HS.out _ hq) | (go_at_call 14; refine (HBR.out _ (HX0.out.trans hq)).mono ?_; rintro e w' ⟨rfl, hx1⟩; replace hq := hq.trans hx1; clear hx1 z0 z1 z2 z3 z4 z5 z6 z7; obtain ⟨z0, z1, z2, z3, z4, z5, z6, z7⟩ := HS.out _ hq) | (go_at_call 19; refine (HB.out.known _ (HX0.out.trans hq)).mono ?_; rintro e w' ⟨rfl, hx1⟩; replace hq := hq.trans hx1; clear hx1 z0 z1 z2 z3 z4 z5 z6 z7; obtain ⟨z0, z1, z2, z3, z4, z5, z6, z7⟩ := HS.out _ hq))
    go_ret
    exact ⟨rfl, HX0.out.trans hq⟩
   have t7 : decide ((7 : Int) < (mo.rings.length : Int)) = false := by simp; omega
   cases h4 : isBookB b with
   | false =>
    have HB2 := Lib.hid (fun w1 (h : Ext w w1) => h4 ▸ HB.out.book w1 h)
    clear h1 h2 h4
    go_wp2_with (first | (go_at_call 13; refine (HB1.out _ (HX0.out.trans hq)).mono ?_; rintro e w' ⟨rfl, hx1⟩; replace hq := hq.trans hx1; clear hx1 z0 z1 z2 z3 z4 z5 z6 z7; obtain ⟨z0, z1, z2, z3, z4, z5, z6, z7⟩ := HS.out _ hq) | (go_at_call 14; refine (HBR.out _ (HX0.out.trans hq)).mono ?_; rintro e w' ⟨rfl, hx1⟩; replace hq := hq.trans hx1; clear hx1 z0 z1 z2 z3 z4 z5 z6 z7; obtain ⟨z0, z1, z2, z3, z4, z5, z6, z7⟩ := HS.out _ hq) | (go_at_call 15; refine (HB2.out _ (HX0.out.trans hq)).mono ?_; rintro e w' ⟨rfl, hx1⟩; replace hq := hq.trans hx1; clear hx1 z0 z1 z2 z3 z4 z5 z6 z7; obtain ⟨z0, z1, z2, z3, z4, z5, z6, z7⟩ := HS.out _ hq) | (go_at_call 19; refine (HB.out.known _ (HX0.out.trans hq)).mono ?_; rintro e w' ⟨rfl, hx1⟩; replace hq := hq.trans hx1; clear hx1 z0 z1 z2 z3 z4 z5 z6 z7; obtain ⟨z0, z1, z2, z3, z4, z5, z6, z7⟩ := HS.out _ hq))
    go_ret
    exact ⟨rfl, HX0.out.trans hq⟩
   | true =>
    have HB2 := Lib.hid (fun w1 (h : Ext w w1) => h4 ▸ HB.out.book w1 h)
    cases h5 : isSackB s with
    | false =>
     rw [h5] at HSA
     clear h1 h2 h4 h5
     go_wp2_with (first | (go_at_call 13; refine (HB1.out _ (HX0.out.trans hq)).mono ?_; rintro e w' ⟨rfl, hx1⟩; replace hq := hq.trans hx1; clear hx1 z0 z1 z2 z3 z4 z5 z6 z7; obtain ⟨z0, z1, z2, z3, z4, z5, z6, z7⟩ := HS.out _ hq) | (go_at_call 14; refine (HBR.out _ (HX0.out.trans hq)).mono ?_; rintro e w' ⟨rfl, hx1⟩; replace hq := hq.trans hx1; clear hx1 z0 z1 z2 z3 z4 z5 z6 z7; obtain ⟨z0, z1, z2, z3, z4, z5, z6, z7⟩ := HS.out _ hq) | (go_at_call 15; refine (HB2.out _ (HX0.out.trans hq)).mono ?_; rintro e w' ⟨rfl, hx1⟩; replace hq := hq.trans hx1; clear hx1 z0 z1 z2 z3 z4 z5 z6 z7; obtain ⟨z0, z1, z2, z3, z4, z5, z6, z7⟩ := HS.out _ hq) | (go_at_call 16; refine (HSA.out _ (HX0.out.trans hq)).mono ?_; rintro e w' ⟨rfl, hx1⟩; replace hq := hq.trans hx1; clear hx1 z0 z1 z2 z3 z4 z5 z6 z7; obtain ⟨z0, z1, z2, z3, z4, z5, z6, z7⟩ := HS.out _ hq) | (go_at_call 19; refine (HB.out.known _ (HX0.out.trans hq)).mono ?_; rintro e w' ⟨rfl, hx1⟩; replace hq := hq.trans hx1; clear hx1 z0 z1 z2 z3 z4 z5 z6 z7; obtain ⟨z0, z1, z2, z3, z4, z5, z6, z7⟩ := HS.out _ hq))
     go_ret
     exact ⟨rfl, HX0.out.trans hq⟩
    | true =>
     rw [h5] at HSA
     cases h6 : isShellB mo with
     | false =>
      rw [h6] at HRS
      clear h1 h2 h4 h5 h6
      go_wp2_with (first | (go_at_call 13; refine (HB1.out _ (HX0.out.trans hq)).mono ?_; rintro e w' ⟨rfl, hx1⟩; replace hq := hq.trans hx1; clear hx1 z0 z1 z2 z3 z4 z5 z6 z7; obtain ⟨z0, z1, z2, z3, z4, z5, z6, z7⟩ := HS.out _ hq) | (go_at_call 14; refine (HBR.out _ (HX0.out.trans hq)).mono ?_; rintro e w' ⟨rfl, hx1⟩; replace hq := hq.trans hx1; clear hx1 z0 z1 z2 z3 z4 z5 z6 z7; obtain ⟨z0, z1, z2, z3, z4, z5, z6, z7⟩ := HS.out _ hq) | (go_at_call 15; refine (HB2.out _ (HX0.out.trans hq)).mono ?_; rintro e w' ⟨rfl, hx1⟩; replace hq := hq.trans hx1; clear hx1 z0 z1 z2 z3 z4 z5 z6 z7; obtain ⟨z0, z1, z2, z3, z4, z5, z6, z7⟩ := HS.out _ hq) | (go_at_call 16; refine (HSA.out _ (HX0.out.trans hq)).mono ?_; rintro e w' ⟨rfl, hx1⟩; replace hq := hq.trans hx1; clear hx1 z0 z1 z2 z3 z4 z5 z6 z7; obtain ⟨z0, z1, z2, z3, z4, z5, z6, z7⟩ := HS.out _ hq) | (go_at_call 17; refine (HRS.out _ (HX0.out.trans hq)).mono ?_; rintro e w' ⟨rfl, hx1⟩; replace hq := hq.trans hx1; clear hx1 z0 z1 z2 z3 z4 z5 z6 z7; obtain ⟨z0, z1, z2, z3, z4, z5, z6, z7⟩ := HS.out _ hq) | (go_at_call 19; refine (HB.out.known _ (HX0.out.trans hq)).mono ?_; rintro e w' ⟨rfl, hx1⟩; replace hq := hq.trans hx1; clear hx1 z0 z1 z2 z3 z4 z5 z6 z7; obtain ⟨z0, z1, z2, z3, z4, z5, z6, z7⟩ := HS.out _ hq))
      go_ret
      exact ⟨rfl, HX0.out.trans hq⟩
     | true =>
      rw [h6] at HRS
      cases h7 : numberB s n with
      | false =>
       rw [h7] at HRN
       clear h1 h2 h4 h5 h6 h7
       go_wp2_with (first | (go_at_call 13; refine (HB1.out _ (HX0.out.trans hq)).mono ?_; rintro e w' ⟨rfl, hx1⟩; replace hq := hq.trans hx1; clear hx1 z0 z1 z2 z3 z4 z5 z6 z7; obtain ⟨z0, z1, z2, z3, z4, z5, z6, z7⟩ := HS.out _ hq) | (go_at_call 14; refine (HBR.out _ (HX0.out.trans hq)).mono ?_; rintro e w' ⟨rfl, hx1⟩; replace hq := hq.trans hx1; clear hx1 z0 z1 z2 z3 z4 z5 z6 z7; obtain ⟨z0, z1, z2, z3, z4, z5, z6, z7⟩ := HS.out _ hq) | (go_at_call 15; refine (HB2.out _ (HX0.out.trans hq)).mono ?_; rintro e w' ⟨rfl, hx1⟩; replace hq := hq.trans hx1; clear hx1 z0 z1 z2 z3 z4 z5 z6 z7; obtain ⟨z0, z1, z2, z3, z4, z5, z6, z7⟩ := HS.out _ hq) | (go_at_call 16; refine (HSA.out _ (HX0.out.trans hq)).mono ?_; rintro e w' ⟨rfl, hx1⟩; replace hq := hq.trans hx1; clear hx1 z0 z1 z2 z3 z4 z5 z6 z7; obtain ⟨z0, z1, z2, z3, z4, z5, z6, z7⟩ := HS.out _ hq) | (go_at_call 17; refine (HRS.out _ (HX0.out.trans hq)).mono ?_; rintro e w' ⟨rfl, hx1⟩; replace hq := hq.trans hx1; clear hx1 z0 z1 z2 z3 z4 z5 z6 z7; obtain ⟨z0, z1, z2, z3, z4, z5, z6, z7⟩ := HS.out _ hq) | (go_at_call 18; refine (HRN.out _ (HX0.out.trans hq)).mono ?_; rintro e w' ⟨rfl, hx1⟩; replace hq := hq.trans hx1; clear hx1 z0 z1 z2 z3 z4 z5 z6 z7; obtain ⟨z0, z1, z2, z3, z4, z5, z6, z7⟩ := HS.out _ hq) | (go_at_call 19; refine (HB.out.known _ (HX0.out.trans hq)).mono ?_; rintro e w' ⟨rfl, hx1⟩; replace hq := hq.trans hx1; clear hx1 z0 z1 z2 z3 z4 z5 z6 z7; obtain ⟨z0, z1, z2, z3, z4, z5, z6, z7⟩ := HS.out _ hq))
       go_ret
       exact ⟨rfl, HX0.out.trans hq⟩
      | true =>
       rw [h7] at HRN
       obtain ⟨i, rfl⟩ : ∃ i : Nat, n = (i : Int) := ⟨n.toNat, by unfold numberB at h7; rw [inB_iff] at h7; omega⟩
       have his : i < s.shells.length := by unfold numberB at h7; rw [inB_iff] at h7; omega
       have HBB := Lib.hid (bookB_of h4)
       have HSB := Lib.hid (sackB_of h5)
       have H4 := Lib.hid h4
       have H5 := Lib.hid h5
       have H6 := Lib.hid h6
       obtain ⟨sb, sf, rv, sh, rfl, hshi, c0, c1, hri⟩ := S3.out i his
       obtain ⟨ia, ic, rfl, _⟩ := hri.open
       have i1 : (0 : Int) ≤ (i : Int) := by omega
       have i2 : (i : Int) < (s.shells.length : Int) := by omega
       have hsm := List.mem_of_getElem? hshi.out
       have HSHI := Lib.hid (show isShellB sh = true by
        have h := h5
        unfold isSackB at h
        rw [Bool.and_eq_true, Bool.and_eq_true, Bool.not_eq_true', List.any_eq_false] at h
        have := h.1.2 sh hsm
        simpa using this)
       have HRI := Lib.hid hri
       have HCC := Lib.hid (fun W (h : Ext w W) => And.intro (h.cell c0) (h.cell c1))
       have hs4 := HSB.out.n2
       have hs6 := HSB.out.t
       clear h1 h2 h4 h5 h6 h7 hri c0 c1 hsm
       go_upto_region 3 with (first | (go_at_call 13; refine (HB1.out _ (HX0.out.trans hq)).mono ?_; rintro e w' ⟨rfl, hx1⟩; replace hq := hq.trans hx1; clear hx1 z0 z1 z2 z3 z4 z5 z6 z7; obtain ⟨z0, z1, z2, z3, z4, z5, z6, z7⟩ := HS.out _ hq) | (go_at_call 14; refine (HBR.out _ (HX0.out.trans hq)).mono ?_; rintro e w' ⟨rfl, hx1⟩; replace hq := hq.trans hx1; clear hx1 z0 z1 z2 z3 z4 z5 z6 z7; obtain ⟨z0, z1, z2, z3, z4, z5, z6, z7⟩ := HS.out _ hq) | (go_at_call 15; refine (HB2.out _ (HX0.out.trans hq)).mono ?_; rintro e w' ⟨rfl, hx1⟩; replace hq := hq.trans hx1; clear hx1 z0 z1 z2 z3 z4 z5 z6 z7; obtain ⟨z0, z1, z2, z3, z4, z5, z6, z7⟩ := HS.out _ hq) | (go_at_call 16; refine (HSA.out _ (HX0.out.trans hq)).mono ?_; rintro e w' ⟨rfl, hx1⟩; replace hq := hq.trans hx1; clear hx1 z0 z1 z2 z3 z4 z5 z6 z7; obtain ⟨z0, z1, z2, z3, z4, z5, z6, z7⟩ := HS.out _ hq) | (go_at_call 17; refine (HRS.out _ (HX0.out.trans hq)).mono ?_; rintro e w' ⟨rfl, hx1⟩; replace hq := hq.trans hx1; clear hx1 z0 z1 z2 z3 z4 z5 z6 z7; obtain ⟨z0, z1, z2, z3, z4, z5, z6, z7⟩ := HS.out _ hq) | (go_at_call 18; refine (HRN.out _ (HX0.out.trans hq)).mono ?_; rintro e w' ⟨rfl, hx1⟩; replace hq := hq.trans hx1; clear hx1 z0 z1 z2 z3 z4 z5 z6 z7; obtain ⟨z0, z1, z2, z3, z4, z5, z6, z7⟩ := HS.out _ hq))
       obtain ⟨d0, d1⟩ := HCC.out _ (HX0.out.trans hq)
       go_upto_region 4 with fail
       obtain ⟨wk, hwk⟩ : ∃ wk : World, wk = ((w'.alloc (.cells #[.slice ia sh.rings.length ic, .int .i64 sh.off] 31)).alloc (.cells #[.slice (some ⟨w'.heap.size, 0, none⟩) 1 1, .slice none 0 0] 28)) := ⟨_, rfl⟩
       have HK := Lib.hid (show Ext W0 wk by rw [hwk]; exact (hq.alloc _).alloc _)
       have HXK := Lib.hid (HX0.out.trans HK.out)
       have HONE := Lib.hid (show SackAt wk (.agg #[.slice (some ⟨w'.heap.size, 0, none⟩) 1 1, .slice none 0 0]) (oneOf sh) by
        rw [hwk]
        exact ⟨_, _, rfl, (one_shells (HRI.out.ext (HX0.out.trans hq)) _).ext ((Ext.refl _).alloc _), RowOf.nil _ _⟩)
       have HS1 := Lib.hid (fun W (h : Ext wk W) => (⟨HS.out W (HK.out.trans h), HCC.out W (HXK.out.trans h), h.cell (by rw [hwk]; go_simp), h.cell (by rw [hwk]; go_simp)⟩ : _ ∧ _ ∧ W.cell? ⟨w'.heap.size + 1, 0, none⟩ = some (.slice (some ⟨w'.heap.size, 0, none⟩) 1 1) ∧ W.cell? ⟨w'.heap.size + 1, 1, none⟩ = some (.slice none 0 0)))
       rw [← hwk]
       clear hwk hq z0 z1 z2 z3 z4 z5 z6 z7 d0 d1 HS HB1 HB2 HBR HSA HRS HRN
       generalize w'.heap.size = kb at *
       obtain ⟨⟨z0, z1, z2, z3, z4, z5, z6, z7⟩, ⟨d0, d1⟩, e0, e1⟩ := HS1.out _ (Ext.refl _)
       have HO1 := Lib.hid (show Calls Tryz.prog 20 #[.agg #[.int .i64 b.years, .slice ra b.rivers.length rc], .agg #[.slice (some ⟨kb, 0, none⟩) 1 1, .slice none 0 0], .int .i64 0] wk (SliceP (fun w v => PairsAt w v (couldOf b (oneOf sh) 0)) (couldOf b (oneOf sh) 0).length (pz b (oneOf sh)) wk) from Origins_pz (i := 0) (HBW.out _ HXK.out) HONE.out H4.out (one_sack HSHI.out) (Nat.lt_succ_self 0))
       have HCO := Lib.hid (fun w1 (h : Ext w w1) => Could_ok (HBW.out w1 h) (show ShellAt w1 (.agg #[.slice ia sh.rings.length ic, .int .i64 sh.off]) sh from ⟨_, rfl, HRI.out.ext h⟩) (show couldArg b sh = true by unfold couldArg; rw [H4.out, HSHI.out]; rfl))
       have HNO := Lib.hid (fun (h : possB b (oneOf sh) = false) => could_none (i := 0) h)
       generalize couldOf b (oneOf sh) 0 = L1 at *
       go_upto_region 5 with (go_at_call 20; refine HO1.out.mono ?_; rintro e w1 ⟨l1, l1c, rfl, hx1, hp1⟩; have HP1 := Lib.hid hp1; clear hp1)
       have HFC := Lib.hid (fun W (h : Ext w1 W) => (⟨(HS1.out W (hx1.trans h)).1.1, (HS1.out W (hx1.trans h)).1.2.1, (HS1.out W (hx1.trans h)).1.2.2.1, (HS1.out W (hx1.trans h)).2.1.1, (HS1.out W (hx1.trans h)).2.1.2⟩ : _ ∧ _ ∧ _ ∧ _ ∧ _))
       have HXA := Lib.hid (HXK.out.trans hx1)
       go_region_held3 (fun w' => w'.cell? ⟨w.heap.size, 0, none⟩ = some (.int .i64 b.years) ∧ w'.cell? ⟨w.heap.size, 1, none⟩ = some (.slice ra b.rivers.length rc) ∧ w'.cell? ⟨w.heap.size + 1, 0, none⟩ = some (.slice (some ⟨sb, sf, none⟩) s.shells.length sc) ∧ w'.cell? ⟨sb, sf + i * 2, none⟩ = some (.slice ia sh.rings.length ic) ∧ w'.cell? ⟨sb, sf + i * 2 + 1, none⟩ = some (.int .i64 sh.off)) (first | exact HFC.out _ (by repeat (first | assumption | exact Ext.refl _ | apply Ext.drew | apply Ext.alloc)))
        (first | (go_at_call 21; refine (HCO.out _ (HXA.out.trans (by repeat (first | assumption | exact Ext.refl _ | apply Ext.drew | apply Ext.alloc)))).mono ?_; rintro e w2 ⟨l2, l2c, rfl, hz, hp2⟩; have HP2 := Lib.hid hp2; have hY : Ext w1 w2 := Ext.trans (by repeat (first | assumption | exact Ext.refl _ | apply Ext.drew | apply Ext.alloc)) hz; clear hz hp2))
       have HP1E := Lib.hid (fun W (h : Ext w2 W) => HP1.out.ext (hY.trans h))
       have HX2 := Lib.hid (hx1.trans hY)
       clear z0 z1 z2 z3 z4 z5 z6 z7 d0 d1 e0 e1 HFC HXA hx1 hY HP1 HO1 HCO HONE
       go_upto_region 6 with fail
       go_cut [12, 13, 14, 15, 111] from 71 to 111 (fun s12 s13 s14 s15 s111 W => s111 = .bool false ∧ Ext w2 W)
       case first =>
        cases hpo : possB b (oneOf sh) with
        | true =>
         have e5 : pz b (oneOf sh) = 0 := by unfold pz; rw [hpo]; rfl
         clear hpo
         go_wp2_with (go_at_call 22; refine (sameO_yes _ _ L1 _ (HP1E.out _ (Ext.refl _)) HP2.out).mono ?_; rintro e w3 ⟨rfl, hx3⟩)
         go_meet
         case rel => exact ⟨rfl, hx3⟩
        | false =>
         have e5 : pz b (oneOf sh) = 7 := by unfold pz; rw [hpo]; rfl
         have e6 : L1 = [] := HNO.out hpo
         subst e6
         clear hpo
         go_wp2
         go_meet
         case rel => exact ⟨rfl, Ext.refl _⟩
       case rest =>
        obtain ⟨rfl, hc6⟩ := hcut
        have HS2 := Lib.hid (fun W (h : Ext wc W) => HS1.out W (HX2.out.trans (hc6.trans h)))
        have HXC := Lib.hid (HXK.out.trans (HX2.out.trans hc6))
        obtain ⟨⟨z0, z1, z2, z3, z4, z5, z6, z7⟩, ⟨d0, d1⟩, e0, e1⟩ := HS2.out _ (Ext.refl _)
        clear HP1E HX2 hc6 HNO HS1
        obtain ⟨wq, rfl⟩ : ∃ wq : World, wq = wc := ⟨_, rfl⟩
        obtain ⟨⟨y0, y1, y2, y3, y4, y5, y6, y7⟩, ⟨y8, y9⟩, y10, y11⟩ := HS2.out _ ((Ext.refl wq).alloc (.cells #[.slice (some ⟨sb, sf, none⟩) s.shells.length sc, .slice ta s.tests.length tc] 28))
        go_upto_if 116 with fail
        obtain ⟨wx, hwx⟩ : ∃ wx : World, wx = wq.alloc (.cells #[.slice (some ⟨sb, sf, none⟩) s.shells.length sc, .slice ta s.tests.length tc] 28) := ⟨_, rfl⟩
        have HXX := Lib.hid (show Ext wq wx by rw [hwx]; exact (Ext.refl wq).alloc _)
        have X0 : wx.cell? ⟨wq.heap.size, 0, none⟩ = some (.slice (some ⟨sb, sf, none⟩) s.shells.length sc) := by rw [hwx]; go_simp
        have X1 : wx.cell? ⟨wq.heap.size, 1, none⟩ = some (.slice ta s.tests.length tc) := by rw [hwx]; go_simp
        have XF : wx.frozen? ⟨wq.heap.size, 1, none⟩ = false := by rw [hwx]; go_simp
        have XG : wx.frozen? ⟨wq.heap.size, 0, none⟩ = false := by rw [hwx]; go_simp
        rw [← hwx]
        clear hwx y0 y1 y2 y3 y4 y5 y6 y7 y8 y9 y10 y11 z0 z1 z2 z3 z4 z5 z6 z7 d0 d1 e0 e1
        obtain ⟨ps, hps, hpro, hpi⟩ := HSHL.out
        have hpn : ps.length = s.shells.length := by rw [← hps]; simp
        have HROW := Lib.hid (show RowAt wx (.slice (some ⟨sb, sf, none⟩) s.shells.length sc) s.shells.length (ps.flatMap shellC) by
         have h := hpro
         unfold RowOf at h
         rw [hpn] at h
         exact RowAt.ext h (HXC.out.trans HXX.out))
        have HPL := Lib.hid (And.intro (show (ps.flatMap shellC).length = s.shells.length * 2 by rw [two_len (fun _ => rfl), hpn]) (shells_one hpi))
        have HPI := Lib.hid hpi
        have HPN := Lib.hid hpn
        have HPS := Lib.hid hps
        clear hps hpro hpi hpn
        go_cut [] from 112 to 123 (fun W => ∃ (xs : List Shell) (xa : Option Addr) (xc : Nat), Ext wq W ∧ Hid (ShellsAt W (.slice xa xs.length xc) xs) ∧ Hid (isSackB ⟨xs, s.tests⟩ = true ∧ ∃ ys, xs = s.shells ++ ys) ∧ W.cell? ⟨wq.heap.size, 0, none⟩ = some (.slice xa xs.length xc) ∧ W.cell? ⟨wq.heap.size, 1, none⟩ = some (.slice ta s.tests.length tc) ∧ W.frozen? ⟨wq.heap.size, 1, none⟩ = false ∧ Hid (∀ W2, Touch (· = wq.heap.size) W W2 → Ext wq W2 → ShellsAt W2 (.slice xa xs.length xc) xs))
        case first =>
         by_cases h4 : s.shells.length < 4
         ·as_aux_lemma =>
           have x4 : decide ((s.shells.length : Int) < 4) = true := by simp; omega
           have HSZ := Lib.hid (show 0 + s.shells.length ≤ maxLen ∧ (0 + s.shells.length) * 32 ≤ 140737488355328 ∧ s.shells.length + 1 ≤ maxLen ∧ (s.shells.length + 1) * 32 ≤ 140737488355328 by unfold maxLen; omega)
           have HSSC := Lib.hid (fun W (h : Ext wq W) => (⟨(HS2.out W h).1.2.2.1, (HS2.out W h).1.2.2.2.2.1, (HS2.out W h).1.2.2.2.2.2.1⟩ : _ ∧ _ ∧ _))
           have HSS := Lib.hid (fun W (h : Ext wx W) => HSSC.out W (HXX.out.trans h))
           go_upto_region 10 with fail
           refine wp_region_held_drew (S := (fun W' => W'.cell? ⟨w.heap.size + 1, 0, none⟩ = some (.slice (some ⟨sb, sf, none⟩) s.shells.length sc) ∧ W'.cell? ⟨w.heap.size + 2, 0, none⟩ = some (.slice ma mo.rings.length mc) ∧ W'.cell? ⟨w.heap.size + 2, 1, none⟩ = some (.int .i64 mo.off))) (by kernel_rfl) ?_ (fun hHeld => ?_)
           ·exact HSS.out _ (by repeat (first | exact hxe | exact Ext.refl _ | apply Ext.drew | apply Ext.alloc))
           refine hTk (i := 0) (d := some 117) (v := ?_) (fun o ho => ?_) hHeld ?_
           rotate_left
           ·simp only [zA, zB, zD] at ho
            subst ho
            refine ⟨by rfl, fun w hSw => ?_⟩
            (try dsimp only at hSw)
            go_simp
            try with_reducible rfl
           try simp only [Act.put, yA, yB, yC]
           refine hTk (i := 1) (d := some 118) (v := ?_) (fun o ho => ?_) hHeld ?_
           rotate_left
           ·simp only [zA, zB, zC, zD] at ho
            subst ho
            refine ⟨by rfl, fun w hSw => ?_⟩
            (try dsimp only at hSw)
            go_simp
            try with_reducible rfl
           try simp only [Act.put, yA, yB, yC]
           refine hTk (i := 3) (d := some 120) (v := ?_) (fun o ho => ?_) hHeld ?_
           rotate_left
           ·simp only [zA, zB, zC, zD] at ho
            subst ho
            refine ⟨by rfl, fun w hSw => ?_⟩
            (try dsimp only at hSw)
            go_simp
            try with_reducible rfl
           try simp only [Act.put, yA, yB, yC]
           refine wpAnyH_ready (rs := [2, 4]) (by kernel_rfl) (by simp) ?_
           refine held_step (i := 2) (by kernel_rfl) (fun o ho K' hK => ?_) ?_
           ·simp only [zA, zB, zC, zD] at ho
            subst ho
            have hlow : wx.heap.size ≤ wx.drew.heap.size := ((by repeat (first | exact Ext.refl _ | apply Ext.drew | apply Ext.alloc)) : Ext wx wx.drew).size
            have hrow : RowAt wx.drew (.slice (some ⟨sb, sf, none⟩) s.shells.length sc) s.shells.length (ps.flatMap shellC) := RowAt.ext HROW.out (by repeat (first | exact Ext.refl _ | apply Ext.drew | apply Ext.alloc))
            refine step_append_row E_shells (by rfl) _ _ (by rfl) wx.drew.heap.size (by rfl) (World.ownsRow_nil _ _ _ _) (by rfl) hrow HPL.out.1 HPL.out.2 HSZ.out.1 HSZ.out.2.1 (Nat.le_refl _) ?_
            intro v1 w1 own1 hgr1 _
            simp only [Nat.zero_add, List.nil_append] at own1
            have hx1 : Ext wx.drew w1 := Ext.grown (Ext.refl _) hgr1 (fun k hk => by cases hk)
            have hxe : Ext wx w1 := ((by repeat (first | exact Ext.refl _ | apply Ext.drew | apply Ext.alloc)) : Ext wx wx.drew).trans hx1
            obtain ⟨ca, cc, rfl, _⟩ := RowAt.open (RowAt.of_owns own1)
            clear hrow hgr1
            refine hK.out _ _ ?_ (fun hHeld => ?_)
            ·exact HSS.out _ (by repeat (first | exact hxe | exact Ext.refl _ | apply Ext.drew | apply Ext.alloc))
            clear hK K'
            refine wpAnyH_ready (rs := [4]) (by kernel_rfl) (by simp) ?_
            refine held_step (i := 4) (by kernel_rfl) (fun o ho K' hK => ?_) ?_
            ·simp only [zA, zB, zC, zD] at ho
             subst ho
             go_simp
             refine hK.out _ _ ?_ (fun hHeld => ?_)
             ·exact HSS.out _ (by repeat (first | exact hxe | exact Ext.refl _ | apply Ext.drew | apply Ext.alloc))
             clear hK K'
             try simp only [yA, yB, yC]
             refine wpAnyH_ready (rs := [5]) (by kernel_rfl) (by simp) ?_
             refine held_step (i := 5) (by kernel_rfl) (fun o ho K' hK => ?_) ?_
             ·simp only [zA, zB, zC, zD] at ho
              subst ho
              refine step_append_row E_shells (by rfl) _ _ (by rfl) _ (by rfl) (own1.alloc (Obj.cells #[.slice ma mo.rings.length mc, .int .i64 mo.off] 31)) (by rfl) (RowAt.new1 w1 #[.slice ma mo.rings.length mc, .int .i64 mo.off] 31) (by rfl) (by simp [Value.oneCell']) HSZ.out.2.2.1 HSZ.out.2.2.2 (Nat.le_trans hx1.size ((Ext.refl w1).alloc _).size) ?_
              intro v2 w2 hown2 hgrow _
              have hx02 : Ext wx w2 := Ext.grown (hxe.alloc (.cells #[.slice ma mo.rings.length mc, .int .i64 mo.off] 31)) hgrow (fun k hk => Nat.le_trans hlow (owns_block own1 k hk))
              have hn2 : RowOf shellC w2 v2 (ps ++ [(.slice ma mo.rings.length mc, mo)]) := by have h := RowAt.of_owns hown2; unfold RowOf; rw [List.flatMap_append, List.length_append, HPN.out]; exact h
              have HN2 := Lib.hid hn2
              have hoff : ∀ k, v2.ownBlock = some k → wx.heap.size ≤ k := fun k hk => Nat.le_trans hlow (owns_block hown2 k hk)
              obtain ⟨a2, c2, rfl, c21, c22, _⟩ := RowAt.open (RowAt.of_owns hown2)
              have HOF := Lib.hid hoff
              have HC2 := Lib.hid (And.intro c21 c22)
              clear hxe hn2 hoff c21 c22
              have hxe := hx02
              clear hx02 hown2 hgrow own1
              refine hK.out _ _ ?_ (fun hHeld => ?_)
              ·exact HSS.out _ (by repeat (first | exact hxe | exact Ext.refl _ | apply Ext.drew | apply Ext.alloc))
              clear hK K'
              refine hTk (i := 6) (d := some 123) (v := ?_) (fun o ho => ?_) hHeld ?_
              rotate_left
              ·simp only [zA, zB, zC, zD] at ho
               subst ho
               refine ⟨by rfl, fun w hSw => ?_⟩
               (try dsimp only at hSw)
               go_simp
               try with_reducible rfl
              try simp only [Act.put, yA, yB, yC]
              refine wpAnyH_ready (rs := [7]) (by kernel_rfl) (by simp) ?_
              refine held_step (i := 7) (by kernel_rfl) (fun o ho K' hK => ?_) ?_
              ·simp only [zA, zB, zC, zD] at ho
               subst ho
               have kx0 := hxe.cell X0
               have kxf := (hxe.frozen (lt_of_cell X0)).trans XG
               go_simp
               refine hK.out _ _ ?_ (fun hHeld => ?_)
               ·exact HSSC.out _ ((HXX.out.trans hxe).setCell (Nat.le_refl _) _)
               clear hK K'
               try simp only [yA, yB, yC]
               refine wpAnyH_done (by kernel_rfl) ?_ _
               try simp only [yA, yB, yC]
               clear hHeld
               have hxc := HXX.out.trans hxe
               have hTf : Touch (· = wq.heap.size) w2 (w2.setCell ⟨wq.heap.size, 0, none⟩ (.slice a2 (s.shells.length + 1) c2)) := Touch.setCell _ rfl
               have hlt : wq.heap.size < wx.heap.size := lt_of_cell X0
               have hx0 := hxe.cell X0
               have hx1' := hxe.cell X1
               have hxf := (hxe.frozen hlt).trans XF
               have hof : OffV (· = wq.heap.size) (.slice a2 (s.shells.length + 1) c2) := fun a n c hv => by cases hv; exact fun e => absurd (HOF.out _ rfl) (by have e2 : a.block = wq.heap.size := e; omega)
               have hro : RowOf shellC (w2.setCell ⟨wq.heap.size, 0, none⟩ (.slice a2 (s.shells.length + 1) c2)) (.slice a2 (s.shells.length + 1) c2) (ps ++ [(.slice ma mo.rings.length mc, mo)]) := RowAt.touch HN2.out hTf hof
               have hkeep : ∀ W2, Touch (· = wq.heap.size) (w2.setCell ⟨wq.heap.size, 0, none⟩ (.slice a2 (s.shells.length + 1) c2)) W2 → Ext wq W2 → ShellsAt W2 (.slice a2 (s.shells.length + 1) c2) (s.shells ++ [mo]) := fun W2 hT hE => by have h := shells_more HPI.out HMI.out (HXC.out.trans hE) (RowAt.touch hro hT hof); rwa [HPS.out] at h
               have hxw : Ext wq (w2.setCell ⟨wq.heap.size, 0, none⟩ (.slice a2 (s.shells.length + 1) c2)) := hxc.setCell (Nat.le_refl _) _
               have hsh2 := shells_more HPI.out HMI.out (HXC.out.trans hxw) hro
               rw [HPS.out] at hsh2
               have hln : (s.shells ++ [mo]).length = s.shells.length + 1 := by simp
               have HFI := Lib.hid (show (Ext wq (w2.setCell ⟨wq.heap.size, 0, none⟩ (.slice a2 (s.shells.length + 1) c2)) ∧ Hid (ShellsAt (w2.setCell ⟨wq.heap.size, 0, none⟩ (.slice a2 (s.shells.length + 1) c2)) (.slice a2 (s.shells ++ [mo]).length c2) (s.shells ++ [mo])) ∧ Hid (isSackB ⟨s.shells ++ [mo], s.tests⟩ = true ∧ ∃ ys, s.shells ++ [mo] = s.shells ++ ys) ∧ ((w2.setCell ⟨wq.heap.size, 0, none⟩ (.slice a2 (s.shells.length + 1) c2))).cell? ⟨wq.heap.size, 0, none⟩ = some (.slice a2 (s.shells ++ [mo]).length c2) ∧ ((w2.setCell ⟨wq.heap.size, 0, none⟩ (.slice a2 (s.shells.length + 1) c2))).cell? ⟨wq.heap.size, 1, none⟩ = some (.slice ta s.tests.length tc) ∧ ((w2.setCell ⟨wq.heap.size, 0, none⟩ (.slice a2 (s.shells.length + 1) c2))).frozen? ⟨wq.heap.size, 1, none⟩ = false ∧ Hid (∀ W2, Touch (· = wq.heap.size) (w2.setCell ⟨wq.heap.size, 0, none⟩ (.slice a2 (s.shells.length + 1) c2)) W2 → Ext wq W2 → ShellsAt W2 (.slice a2 (s.shells ++ [mo]).length c2) (s.shells ++ [mo]))) from ⟨hxw, by rw [hln]; exact hsh2, ⟨more_shells H5.out H6.out h4, [mo], rfl⟩, by rw [hln]; go_simp, by go_simp, by go_simp, by rw [hln]; exact hkeep⟩)
               clear hln hsh2 hkeep hro hof hTf hxw hx0 hx1' hxf
               go_wp2_with fail
               go_meet
               case rel => exact ⟨s.shells ++ [mo], a2, c2, HFI.out⟩
              exact AllReadyH.nil
             exact AllReadyH.nil
            exact AllReadyH.nil
           refine held_step (i := 4) (by kernel_rfl) (fun o ho K' hK => ?_) ?_
           ·simp only [zA, zB, zC, zD] at ho
            subst ho
            go_simp
            refine hK.out _ _ ?_ (fun hHeld => ?_)
            ·exact HSS.out _ (by repeat (first | exact hxe | exact Ext.refl _ | apply Ext.drew | apply Ext.alloc))
            clear hK K'
            try simp only [yA, yB, yC]
            refine wpAnyH_ready (rs := [2]) (by kernel_rfl) (by simp) ?_
            refine held_step (i := 2) (by kernel_rfl) (fun o ho K' hK => ?_) ?_
            ·simp only [zA, zB, zC, zD] at ho
             subst ho
             have hlow : wx.heap.size ≤ (wx.drew.alloc (.cells #[.slice ma mo.rings.length mc, .int .i64 mo.off] 31)).heap.size := ((by repeat (first | exact Ext.refl _ | apply Ext.drew | apply Ext.alloc)) : Ext wx (wx.drew.alloc (.cells #[.slice ma mo.rings.length mc, .int .i64 mo.off] 31))).size
             have hrow : RowAt (wx.drew.alloc (.cells #[.slice ma mo.rings.length mc, .int .i64 mo.off] 31)) (.slice (some ⟨sb, sf, none⟩) s.shells.length sc) s.shells.length (ps.flatMap shellC) := RowAt.ext HROW.out (by repeat (first | exact Ext.refl _ | apply Ext.drew | apply Ext.alloc))
             refine step_append_row E_shells (by rfl) _ _ (by rfl) (wx.drew.alloc (.cells #[.slice ma mo.rings.length mc, .int .i64 mo.off] 31)).heap.size (by rfl) (World.ownsRow_nil _ _ _ _) (by rfl) hrow HPL.out.1 HPL.out.2 HSZ.out.1 HSZ.out.2.1 (Nat.le_refl _) ?_
             intro v1 w1 own1 hgr1 _
             simp only [Nat.zero_add, List.nil_append] at own1
             have hx1 : Ext (wx.drew.alloc (.cells #[.slice ma mo.rings.length mc, .int .i64 mo.off] 31)) w1 := Ext.grown (Ext.refl _) hgr1 (fun k hk => by cases hk)
             have hxe : Ext wx w1 := ((by repeat (first | exact Ext.refl _ | apply Ext.drew | apply Ext.alloc)) : Ext wx (wx.drew.alloc (.cells #[.slice ma mo.rings.length mc, .int .i64 mo.off] 31))).trans hx1
             obtain ⟨ca, cc, rfl, _⟩ := RowAt.open (RowAt.of_owns own1)
             clear hrow hgr1
             refine hK.out _ _ ?_ (fun hHeld => ?_)
             ·exact HSS.out _ (by repeat (first | exact hxe | exact Ext.refl _ | apply Ext.drew | apply Ext.alloc))
             clear hK K'
             refine wpAnyH_ready (rs := [5]) (by kernel_rfl) (by simp) ?_
             refine held_step (i := 5) (by kernel_rfl) (fun o ho K' hK => ?_) ?_
             ·simp only [zA, zB, zC, zD] at ho
              subst ho
              refine step_append_row E_shells (by rfl) _ _ (by rfl) _ (by rfl) own1 (by rfl) ((RowAt.new1 wx.drew #[.slice ma mo.rings.length mc, .int .i64 mo.off] 31).ext hx1) (by rfl) (by simp [Value.oneCell']) HSZ.out.2.2.1 HSZ.out.2.2.2 hx1.size ?_
              intro v2 w2 hown2 hgrow _
              have hx02 : Ext wx w2 := Ext.grown hxe hgrow (fun k hk => Nat.le_trans hlow (owns_block own1 k hk))
              have hn2 : RowOf shellC w2 v2 (ps ++ [(.slice ma mo.rings.length mc, mo)]) := by have h := RowAt.of_owns hown2; unfold RowOf; rw [List.flatMap_append, List.length_append, HPN.out]; exact h
              have HN2 := Lib.hid hn2
              have hoff : ∀ k, v2.ownBlock = some k → wx.heap.size ≤ k := fun k hk => Nat.le_trans hlow (owns_block hown2 k hk)
              obtain ⟨a2, c2, rfl, c21, c22, _⟩ := RowAt.open (RowAt.of_owns hown2)
              have HOF := Lib.hid hoff
              have HC2 := Lib.hid (And.intro c21 c22)
              clear hxe hn2 hoff c21 c22
              have hxe := hx02
              clear hx02 hown2 hgrow own1
              refine hK.out _ _ ?_ (fun hHeld => ?_)
              ·exact HSS.out _ (by repeat (first | exact hxe | exact Ext.refl _ | apply Ext.drew | apply Ext.alloc))
              clear hK K'
              refine hTk (i := 6) (d := some 123) (v := ?_) (fun o ho => ?_) hHeld ?_
              rotate_left
              ·simp only [zA, zB, zC, zD] at ho
               subst ho
               refine ⟨by rfl, fun w hSw => ?_⟩
               (try dsimp only at hSw)
               go_simp
               try with_reducible rfl
              try simp only [Act.put, yA, yB, yC]
              refine wpAnyH_ready (rs := [7]) (by kernel_rfl) (by simp) ?_
              refine held_step (i := 7) (by kernel_rfl) (fun o ho K' hK => ?_) ?_
              ·simp only [zA, zB, zC, zD] at ho
               subst ho
               have kx0 := hxe.cell X0
               have kxf := (hxe.frozen (lt_of_cell X0)).trans XG
               go_simp
               refine hK.out _ _ ?_ (fun hHeld => ?_)
               ·exact HSSC.out _ ((HXX.out.trans hxe).setCell (Nat.le_refl _) _)
               clear hK K'
               try simp only [yA, yB, yC]
               refine wpAnyH_done (by kernel_rfl) ?_ _
               try simp only [yA, yB, yC]
               clear hHeld
               have hxc := HXX.out.trans hxe
               have hTf : Touch (· = wq.heap.size) w2 (w2.setCell ⟨wq.heap.size, 0, none⟩ (.slice a2 (s.shells.length + 1) c2)) := Touch.setCell _ rfl
               have hlt : wq.heap.size < wx.heap.size := lt_of_cell X0
               have hx0 := hxe.cell X0
               have hx1' := hxe.cell X1
               have hxf := (hxe.frozen hlt).trans XF
               have hof : OffV (· = wq.heap.size) (.slice a2 (s.shells.length + 1) c2) := fun a n c hv => by cases hv; exact fun e => absurd (HOF.out _ rfl) (by have e2 : a.block = wq.heap.size := e; omega)
               have hro : RowOf shellC (w2.setCell ⟨wq.heap.size, 0, none⟩ (.slice a2 (s.shells.length + 1) c2)) (.slice a2 (s.shells.length + 1) c2) (ps ++ [(.slice ma mo.rings.length mc, mo)]) := RowAt.touch HN2.out hTf hof
               have hkeep : ∀ W2, Touch (· = wq.heap.size) (w2.setCell ⟨wq.heap.size, 0, none⟩ (.slice a2 (s.shells.length + 1) c2)) W2 → Ext wq W2 → ShellsAt W2 (.slice a2 (s.shells.length + 1) c2) (s.shells ++ [mo]) := fun W2 hT hE => by have h := shells_more HPI.out HMI.out (HXC.out.trans hE) (RowAt.touch hro hT hof); rwa [HPS.out] at h
               have hxw : Ext wq (w2.setCell ⟨wq.heap.size, 0, none⟩ (.slice a2 (s.shells.length + 1) c2)) := hxc.setCell (Nat.le_refl _) _
               have hsh2 := shells_more HPI.out HMI.out (HXC.out.trans hxw) hro
               rw [HPS.out] at hsh2
               have hln : (s.shells ++ [mo]).length = s.shells.length + 1 := by simp
               have HFI := Lib.hid (show (Ext wq (w2.setCell ⟨wq.heap.size, 0, none⟩ (.slice a2 (s.shells.length + 1) c2)) ∧ Hid (ShellsAt (w2.setCell ⟨wq.heap.size, 0, none⟩ (.slice a2 (s.shells.length + 1) c2)) (.slice a2 (s.shells ++ [mo]).length c2) (s.shells ++ [mo])) ∧ Hid (isSackB ⟨s.shells ++ [mo], s.tests⟩ = true ∧ ∃ ys, s.shells ++ [mo] = s.shells ++ ys) ∧ ((w2.setCell ⟨wq.heap.size, 0, none⟩ (.slice a2 (s.shells.length + 1) c2))).cell? ⟨wq.heap.size, 0, none⟩ = some (.slice a2 (s.shells ++ [mo]).length c2) ∧ ((w2.setCell ⟨wq.heap.size, 0, none⟩ (.slice a2 (s.shells.length + 1) c2))).cell? ⟨wq.heap.size, 1, none⟩ = some (.slice ta s.tests.length tc) ∧ ((w2.setCell ⟨wq.heap.size, 0, none⟩ (.slice a2 (s.shells.length + 1) c2))).frozen? ⟨wq.heap.size, 1, none⟩ = false ∧ Hid (∀ W2, Touch (· = wq.heap.size) (w2.setCell ⟨wq.heap.size, 0, none⟩ (.slice a2 (s.shells.length + 1) c2)) W2 → Ext wq W2 → ShellsAt W2 (.slice a2 (s.shells ++ [mo]).length c2) (s.shells ++ [mo]))) from ⟨hxw, by rw [hln]; exact hsh2, ⟨more_shells H5.out H6.out h4, [mo], rfl⟩, by rw [hln]; go_simp, by go_simp, by go_simp, by rw [hln]; exact hkeep⟩)
               clear hln hsh2 hkeep hro hof hTf hxw hx0 hx1' hxf
               go_wp2_with fail
               go_meet
               case rel => exact ⟨s.shells ++ [mo], a2, c2, HFI.out⟩
              exact AllReadyH.nil
             exact AllReadyH.nil
            exact AllReadyH.nil
           exact AllReadyH.nil
         ·have x4 : decide ((s.shells.length : Int) < 4) = false := by simp; omega
          have HFI := Lib.hid (HSHL.out.ext (HXC.out.trans HXX.out))
          have HF2 := Lib.hid (show isSackB ⟨s.shells, s.tests⟩ = true ∧ ∃ ys, s.shells = s.shells ++ ys from ⟨H5.out, [], by simp⟩)
          go_wp2
          go_meet
          case rel => exact ⟨s.shells, _, _, HXX.out, HFI.out, HF2.out, X0, X1, XF, fun W2 _ hE => HSHL.out.ext (HXC.out.trans hE)⟩
        case rest =>
         obtain ⟨xs, xa, xc, hxc, hxs, hxk, k0, k1, kf, HXO⟩ := hcut
         clear X0 X1 XF XG HROW HPL HPI HPN HPS
         obtain ⟨w1c, rfl⟩ : ∃ w1c : World, w1c = wc := ⟨_, rfl⟩
         have HXK2 := Lib.hid hxk.out
         have HS4 := Lib.hid (fun W (h : Ext w1c W) => (⟨HS2.out W (hxc.trans h), h.cell k0, h.cell k1⟩ : _ ∧ _ ∧ _))
         have HSX := Lib.hid (show SackAt w1c (.agg #[.slice xa xs.length xc, .slice ta s.tests.length tc]) ⟨xs, s.tests⟩ from ⟨_, _, rfl, hxs.out, RowOf.ext HTE.out (HXC.out.trans hxc)⟩)
         have HNB := Lib.hid (rnumber_any _ ⟨xs, s.tests⟩ t1 w1c HSX.out)
         obtain ⟨⟨⟨z0, z1, z2, z3, z4, z5, z6, z7⟩, ⟨d0, d1⟩, e0, e1⟩, k2, k3⟩ := HS4.out _ (Ext.refl _)
         clear k2 k3 hxk
         go_upto_region 11 with fail
         go_cut [133] from 124 to 133 (fun s133 W => ∃ c : Bool, s133 = .bool c ∧ Ext w1c W ∧ Hid (c = true → numberB ⟨xs, s.tests⟩ t1 = true ∧ s.tests.length < 6))
         case first =>
          cases hnb : numberB ⟨xs, s.tests⟩ t1 with
          | false =>
           rw [hnb] at HNB
           clear hnb
           go_wp2_with (go_at_call 18; refine HNB.out.mono ?_; rintro e w' ⟨rfl, hx1⟩)
           go_meet
           case rel => exact ⟨false, rfl, hx1, fun h => by cases h⟩
          | true =>
           rw [hnb] at HNB
           by_cases h6 : s.tests.length < 6
           ·have x6 : decide ((s.tests.length : Int) < 6) = true := by simp; omega
            have HNB2 := Lib.hid hnb
            clear hnb
            go_wp2_with (go_at_call 18; refine HNB.out.mono ?_; rintro e w' ⟨rfl, hx1⟩; clear z0 z1 z2 z3 z4 z5 z6 z7 d0 d1 e0 e1; obtain ⟨⟨⟨z0, z1, z2, z3, z4, z5, z6, z7⟩, ⟨d0, d1⟩, e0, e1⟩, _⟩ := HS4.out _ hx1)
            go_meet
            case rel => exact ⟨true, rfl, hx1, fun _ => ⟨HNB2.out, h6⟩⟩
           ·have x6 : decide ((s.tests.length : Int) < 6) = false := by simp; omega
            clear hnb
            go_wp2_with (go_at_call 18; refine HNB.out.mono ?_; rintro e w' ⟨rfl, hx1⟩; clear z0 z1 z2 z3 z4 z5 z6 z7 d0 d1 e0 e1; obtain ⟨⟨⟨z0, z1, z2, z3, z4, z5, z6, z7⟩, ⟨d0, d1⟩, e0, e1⟩, _⟩ := HS4.out _ hx1)
            go_meet
            case rel => exact ⟨false, rfl, hx1, fun h => by cases h⟩
         case rest =>
          obtain ⟨c, rfl, hxd, hcc⟩ := hcut
          obtain ⟨wd, rfl⟩ : ∃ wd : World, wd = wc := ⟨_, rfl⟩
          have K0 := hxd.cell k0
          have K1 := hxd.cell k1
          have KF := (hxd.frozen (lt_of_cell k1)).trans kf
          go_upto_if 133 with fail
          go_cut [133] from 134 to 140 (fun s133 W => ∃ (ts : List (Int × Bool)) (ya : Option Addr) (yc : Nat), Ext wq W ∧ Hid (SackAt W (.agg #[.slice xa xs.length xc, .slice ya ts.length yc]) ⟨xs, ts⟩) ∧ Hid (isSackB ⟨xs, ts⟩ = true ∧ MoreP s ⟨xs, ts⟩) ∧ W.cell? ⟨wq.heap.size, 0, none⟩ = some (.slice xa xs.length xc) ∧ W.cell? ⟨wq.heap.size, 1, none⟩ = some (.slice ya ts.length yc))
          case first =>
           cases c with
           | true =>
            as_aux_lemma =>
             replace hcc := hcc.out rfl
             have HSZ := Lib.hid (show 0 + s.tests.length ≤ maxLen ∧ (0 + s.tests.length) * 16 ≤ 140737488355328 ∧ s.tests.length + 1 ≤ maxLen ∧ (s.tests.length + 1) * 16 ≤ 140737488355328 by unfold maxLen; omega)
             have HSSC := Lib.hid (fun W (h : Ext wq W) => (⟨(HS2.out W h).1.2.2.2.1, (HS2.out W h).1.2.2.2.2.2.2.1, (HS2.out W h).1.2.2.2.2.2.2.2⟩ : _ ∧ _ ∧ _))
             have HSS := Lib.hid (fun W (h : Ext wd W) => HSSC.out W ((hxc.trans hxd).trans h))
             have HROW := Lib.hid (show RowAt wd (.slice ta s.tests.length tc) s.tests.length (s.tests.flatMap testC) from RowAt.ext HTE.out (HXC.out.trans (hxc.trans hxd)))
             go_upto_region 12 with fail
             refine wp_region_held_drew (S := (fun W' => W'.cell? ⟨w.heap.size + 1, 1, none⟩ = some (.slice ta s.tests.length tc) ∧ W'.cell? ⟨w.heap.size + 3, 0, none⟩ = some (.int .i64 t1) ∧ W'.cell? ⟨w.heap.size + 3, 1, none⟩ = some (.bool t2))) (by kernel_rfl) ?_ (fun hHeld => ?_)
             ·exact HSS.out _ (by repeat (first | exact hxe | exact Ext.refl _ | apply Ext.drew | apply Ext.alloc))
             refine hTk (i := 0) (d := some 134) (v := ?_) (fun o ho => ?_) hHeld ?_
             rotate_left
             ·simp only [zA, zB, zD] at ho
              subst ho
              refine ⟨by rfl, fun w hSw => ?_⟩
              (try dsimp only at hSw)
              go_simp
              try with_reducible rfl
             try simp only [Act.put, yA, yB, yC]
             refine hTk (i := 1) (d := some 135) (v := ?_) (fun o ho => ?_) hHeld ?_
             rotate_left
             ·simp only [zA, zB, zC, zD] at ho
              subst ho
              refine ⟨by rfl, fun w hSw => ?_⟩
              (try dsimp only at hSw)
              go_simp
              try with_reducible rfl
             try simp only [Act.put, yA, yB, yC]
             refine hTk (i := 3) (d := some 137) (v := ?_) (fun o ho => ?_) hHeld ?_
             rotate_left
             ·simp only [zA, zB, zC, zD] at ho
              subst ho
              refine ⟨by rfl, fun w hSw => ?_⟩
              (try dsimp only at hSw)
              go_simp
              try with_reducible rfl
             try simp only [Act.put, yA, yB, yC]
             refine wpAnyH_ready (rs := [2, 4]) (by kernel_rfl) (by simp) ?_
             refine held_step (i := 2) (by kernel_rfl) (fun o ho K' hK => ?_) ?_
             ·simp only [zA, zB, zC, zD] at ho
              subst ho
              have hlow : wd.heap.size ≤ wd.drew.heap.size := ((by repeat (first | exact Ext.refl _ | apply Ext.drew | apply Ext.alloc)) : Ext wd wd.drew).size
              have hrow : RowAt wd.drew (.slice ta s.tests.length tc) s.tests.length (s.tests.flatMap testC) := RowAt.ext HROW.out (by repeat (first | exact Ext.refl _ | apply Ext.drew | apply Ext.alloc))
              refine step_append_row E_tests (by rfl) _ _ (by rfl) wd.drew.heap.size (by rfl) (World.ownsRow_nil _ _ _ _) (by rfl) hrow (two_len (fun _ => rfl) s.tests) (tests_one s.tests) HSZ.out.1 HSZ.out.2.1 (Nat.le_refl _) ?_
              intro v1 w1 own1 hgr1 _
              simp only [Nat.zero_add, List.nil_append] at own1
              have hx1 : Ext wd.drew w1 := Ext.grown (Ext.refl _) hgr1 (fun k hk => by cases hk)
              have hxe : Ext wd w1 := ((by repeat (first | exact Ext.refl _ | apply Ext.drew | apply Ext.alloc)) : Ext wd wd.drew).trans hx1
              obtain ⟨ca, cc, rfl, _⟩ := RowAt.open (RowAt.of_owns own1)
              clear hrow hgr1
              refine hK.out _ _ ?_ (fun hHeld => ?_)
              ·exact HSS.out _ (by repeat (first | exact hxe | exact Ext.refl _ | apply Ext.drew | apply Ext.alloc))
              clear hK K'
              refine wpAnyH_ready (rs := [4]) (by kernel_rfl) (by simp) ?_
              refine held_step (i := 4) (by kernel_rfl) (fun o ho K' hK => ?_) ?_
              ·simp only [zA, zB, zC, zD] at ho
               subst ho
               go_simp
               refine hK.out _ _ ?_ (fun hHeld => ?_)
               ·exact HSS.out _ (by repeat (first | exact hxe | exact Ext.refl _ | apply Ext.drew | apply Ext.alloc))
               clear hK K'
               try simp only [yA, yB, yC]
               refine wpAnyH_ready (rs := [5]) (by kernel_rfl) (by simp) ?_
               refine held_step (i := 5) (by kernel_rfl) (fun o ho K' hK => ?_) ?_
               ·simp only [zA, zB, zC, zD] at ho
                subst ho
                refine step_append_row E_tests (by rfl) _ _ (by rfl) _ (by rfl) (own1.alloc (Obj.cells #[.int .i64 t1, .bool t2] 33)) (by rfl) (RowAt.new1 w1 #[.int .i64 t1, .bool t2] 33) (by rfl) (by simp [Value.oneCell']) HSZ.out.2.2.1 HSZ.out.2.2.2 (Nat.le_trans hx1.size ((Ext.refl w1).alloc _).size) ?_
                intro v2 w2 hown2 hgrow _
                have hx02 : Ext wd w2 := Ext.grown (hxe.alloc (.cells #[.int .i64 t1, .bool t2] 33)) hgrow (fun k hk => Nat.le_trans hlow (owns_block own1 k hk))
                have hn2 : RowOf testC w2 v2 (s.tests ++ [(t1, t2)]) := by have h := RowAt.of_owns hown2; unfold RowOf; rw [List.flatMap_append, List.length_append]; exact h
                have HN2 := Lib.hid hn2
                have hoff : ∀ k, v2.ownBlock = some k → wd.heap.size ≤ k := fun k hk => Nat.le_trans hlow (owns_block hown2 k hk)
                obtain ⟨a2, c2, rfl, c21, c22, _⟩ := RowAt.open (RowAt.of_owns hown2)
                have HOF := Lib.hid hoff
                have HC2 := Lib.hid (And.intro c21 c22)
                clear hxe hn2 hoff c21 c22
                have hxe := hx02
                clear hx02 hown2 hgrow own1
                refine hK.out _ _ ?_ (fun hHeld => ?_)
                ·exact HSS.out _ (by repeat (first | exact hxe | exact Ext.refl _ | apply Ext.drew | apply Ext.alloc))
                clear hK K'
                refine hTk (i := 6) (d := some 140) (v := ?_) (fun o ho => ?_) hHeld ?_
                rotate_left
                ·simp only [zA, zB, zC, zD] at ho
                 subst ho
                 refine ⟨by rfl, fun w hSw => ?_⟩
                 (try dsimp only at hSw)
                 go_simp
                 try with_reducible rfl
                try simp only [Act.put, yA, yB, yC]
                refine wpAnyH_ready (rs := [7]) (by kernel_rfl) (by simp) ?_
                refine held_step (i := 7) (by kernel_rfl) (fun o ho K' hK => ?_) ?_
                ·simp only [zA, zB, zC, zD] at ho
                 subst ho
                 have kx0 := hxe.cell K1
                 have kxf := (hxe.frozen (lt_of_cell K1)).trans KF
                 go_simp
                 refine hK.out _ _ ?_ (fun hHeld => ?_)
                 ·exact HSSC.out _ (((hxc.trans hxd).trans hxe).setCell (Nat.le_refl _) _)
                 clear hK K'
                 try simp only [yA, yB, yC]
                 refine wpAnyH_done (by kernel_rfl) ?_ _
                 try simp only [yA, yB, yC]
                 clear hHeld
                 have hxc2 := (hxc.trans hxd).trans hxe
                 have hTf : Touch (· = wq.heap.size) w2 (w2.setCell ⟨wq.heap.size, 1, none⟩ (.slice a2 (s.tests.length + 1) c2)) := Touch.setCell _ rfl
                 have hlt : wq.heap.size < wd.heap.size := lt_of_cell K0
                 have hk0 := hxe.cell K0
                 have hk1 := hxe.cell K1
                 have hro : RowOf testC (w2.setCell ⟨wq.heap.size, 1, none⟩ (.slice a2 (s.tests.length + 1) c2)) (.slice a2 (s.tests.length + 1) c2) (s.tests ++ [(t1, t2)]) := RowAt.touch HN2.out hTf (fun a n c hv => by cases hv; exact fun e => absurd (HOF.out _ rfl) (by have e2 : a.block = wq.heap.size := e; omega))
                 have hxw : Ext wq (w2.setCell ⟨wq.heap.size, 1, none⟩ (.slice a2 (s.tests.length + 1) c2)) := hxc2.setCell (Nat.le_refl _) _
                 have hshx : ShellsAt (w2.setCell ⟨wq.heap.size, 1, none⟩ (.slice a2 (s.tests.length + 1) c2)) (.slice xa xs.length xc) xs := HXO.out _ ((Touch.of_ext (hxd.trans hxe)).trans hTf) hxw
                 have hln : (s.tests ++ [(t1, t2)]).length = s.tests.length + 1 := by simp
                 have HFI := Lib.hid (show (Ext wq (w2.setCell ⟨wq.heap.size, 1, none⟩ (.slice a2 (s.tests.length + 1) c2)) ∧ Hid (SackAt (w2.setCell ⟨wq.heap.size, 1, none⟩ (.slice a2 (s.tests.length + 1) c2)) (.agg #[.slice xa xs.length xc, .slice a2 (s.tests ++ [(t1, t2)]).length c2]) ⟨xs, s.tests ++ [(t1, t2)]⟩) ∧ Hid (isSackB ⟨xs, s.tests ++ [(t1, t2)]⟩ = true ∧ MoreP s ⟨xs, s.tests ++ [(t1, t2)]⟩) ∧ ((w2.setCell ⟨wq.heap.size, 1, none⟩ (.slice a2 (s.tests.length + 1) c2))).cell? ⟨wq.heap.size, 0, none⟩ = some (.slice xa xs.length xc) ∧ ((w2.setCell ⟨wq.heap.size, 1, none⟩ (.slice a2 (s.tests.length + 1) c2))).cell? ⟨wq.heap.size, 1, none⟩ = some (.slice a2 (s.tests ++ [(t1, t2)]).length c2)) from ⟨hxw, by rw [hln]; exact ⟨_, _, rfl, hshx, hro⟩, ⟨more_tests HXK2.out.1 hcc.1 hcc.2, ⟨HXK2.out.2, [(t1, t2)], rfl⟩⟩, by go_simp, by rw [hln]; go_simp⟩)
                 clear hln hshx hro hTf hxw hk0 hk1
                 go_wp2_with fail
                 go_meet
                 case rel => exact ⟨s.tests ++ [(t1, t2)], a2, c2, HFI.out⟩
                exact AllReadyH.nil
               exact AllReadyH.nil
              exact AllReadyH.nil
             refine held_step (i := 4) (by kernel_rfl) (fun o ho K' hK => ?_) ?_
             ·simp only [zA, zB, zC, zD] at ho
              subst ho
              go_simp
              refine hK.out _ _ ?_ (fun hHeld => ?_)
              ·exact HSS.out _ (by repeat (first | exact hxe | exact Ext.refl _ | apply Ext.drew | apply Ext.alloc))
              clear hK K'
              try simp only [yA, yB, yC]
              refine wpAnyH_ready (rs := [2]) (by kernel_rfl) (by simp) ?_
              refine held_step (i := 2) (by kernel_rfl) (fun o ho K' hK => ?_) ?_
              ·simp only [zA, zB, zC, zD] at ho
               subst ho
               have hlow : wd.heap.size ≤ (wd.drew.alloc (.cells #[.int .i64 t1, .bool t2] 33)).heap.size := ((by repeat (first | exact Ext.refl _ | apply Ext.drew | apply Ext.alloc)) : Ext wd (wd.drew.alloc (.cells #[.int .i64 t1, .bool t2] 33))).size
               have hrow : RowAt (wd.drew.alloc (.cells #[.int .i64 t1, .bool t2] 33)) (.slice ta s.tests.length tc) s.tests.length (s.tests.flatMap testC) := RowAt.ext HROW.out (by repeat (first | exact Ext.refl _ | apply Ext.drew | apply Ext.alloc))
               refine step_append_row E_tests (by rfl) _ _ (by rfl) (wd.drew.alloc (.cells #[.int .i64 t1, .bool t2] 33)).heap.size (by rfl) (World.ownsRow_nil _ _ _ _) (by rfl) hrow (two_len (fun _ => rfl) s.tests) (tests_one s.tests) HSZ.out.1 HSZ.out.2.1 (Nat.le_refl _) ?_
               intro v1 w1 own1 hgr1 _
               simp only [Nat.zero_add, List.nil_append] at own1
               have hx1 : Ext (wd.drew.alloc (.cells #[.int .i64 t1, .bool t2] 33)) w1 := Ext.grown (Ext.refl _) hgr1 (fun k hk => by cases hk)
               have hxe : Ext wd w1 := ((by repeat (first | exact Ext.refl _ | apply Ext.drew | apply Ext.alloc)) : Ext wd (wd.drew.alloc (.cells #[.int .i64 t1, .bool t2] 33))).trans hx1
               obtain ⟨ca, cc, rfl, _⟩ := RowAt.open (RowAt.of_owns own1)
               clear hrow hgr1
               refine hK.out _ _ ?_ (fun hHeld => ?_)
               ·exact HSS.out _ (by repeat (first | exact hxe | exact Ext.refl _ | apply Ext.drew | apply Ext.alloc))
               clear hK K'
               refine wpAnyH_ready (rs := [5]) (by kernel_rfl) (by simp) ?_
               refine held_step (i := 5) (by kernel_rfl) (fun o ho K' hK => ?_) ?_
               ·simp only [zA, zB, zC, zD] at ho
                subst ho
                refine step_append_row E_tests (by rfl) _ _ (by rfl) _ (by rfl) own1 (by rfl) ((RowAt.new1 wd.drew #[.int .i64 t1, .bool t2] 33).ext hx1) (by rfl) (by simp [Value.oneCell']) HSZ.out.2.2.1 HSZ.out.2.2.2 hx1.size ?_
                intro v2 w2 hown2 hgrow _
                have hx02 : Ext wd w2 := Ext.grown hxe hgrow (fun k hk => Nat.le_trans hlow (owns_block own1 k hk))
                have hn2 : RowOf testC w2 v2 (s.tests ++ [(t1, t2)]) := by have h := RowAt.of_owns hown2; unfold RowOf; rw [List.flatMap_append, List.length_append]; exact h
                have HN2 := Lib.hid hn2
                have hoff : ∀ k, v2.ownBlock = some k → wd.heap.size ≤ k := fun k hk => Nat.le_trans hlow (owns_block hown2 k hk)
                obtain ⟨a2, c2, rfl, c21, c22, _⟩ := RowAt.open (RowAt.of_owns hown2)
                have HOF := Lib.hid hoff
                have HC2 := Lib.hid (And.intro c21 c22)
                clear hxe hn2 hoff c21 c22
                have hxe := hx02
                clear hx02 hown2 hgrow own1
                refine hK.out _ _ ?_ (fun hHeld => ?_)
                ·exact HSS.out _ (by repeat (first | exact hxe | exact Ext.refl _ | apply Ext.drew | apply Ext.alloc))
                clear hK K'
                refine hTk (i := 6) (d := some 140) (v := ?_) (fun o ho => ?_) hHeld ?_
                rotate_left
                ·simp only [zA, zB, zC, zD] at ho
                 subst ho
                 refine ⟨by rfl, fun w hSw => ?_⟩
                 (try dsimp only at hSw)
                 go_simp
                 try with_reducible rfl
                try simp only [Act.put, yA, yB, yC]
                refine wpAnyH_ready (rs := [7]) (by kernel_rfl) (by simp) ?_
                refine held_step (i := 7) (by kernel_rfl) (fun o ho K' hK => ?_) ?_
                ·simp only [zA, zB, zC, zD] at ho
                 subst ho
                 have kx0 := hxe.cell K1
                 have kxf := (hxe.frozen (lt_of_cell K1)).trans KF
                 go_simp
                 refine hK.out _ _ ?_ (fun hHeld => ?_)
                 ·exact HSSC.out _ (((hxc.trans hxd).trans hxe).setCell (Nat.le_refl _) _)
                 clear hK K'
                 try simp only [yA, yB, yC]
                 refine wpAnyH_done (by kernel_rfl) ?_ _
                 try simp only [yA, yB, yC]
                 clear hHeld
                 have hxc2 := (hxc.trans hxd).trans hxe
                 have hTf : Touch (· = wq.heap.size) w2 (w2.setCell ⟨wq.heap.size, 1, none⟩ (.slice a2 (s.tests.length + 1) c2)) := Touch.setCell _ rfl
                 have hlt : wq.heap.size < wd.heap.size := lt_of_cell K0
                 have hk0 := hxe.cell K0
                 have hk1 := hxe.cell K1
                 have hro : RowOf testC (w2.setCell ⟨wq.heap.size, 1, none⟩ (.slice a2 (s.tests.length + 1) c2)) (.slice a2 (s.tests.length + 1) c2) (s.tests ++ [(t1, t2)]) := RowAt.touch HN2.out hTf (fun a n c hv => by cases hv; exact fun e => absurd (HOF.out _ rfl) (by have e2 : a.block = wq.heap.size := e; omega))
                 have hxw : Ext wq (w2.setCell ⟨wq.heap.size, 1, none⟩ (.slice a2 (s.tests.length + 1) c2)) := hxc2.setCell (Nat.le_refl _) _
                 have hshx : ShellsAt (w2.setCell ⟨wq.heap.size, 1, none⟩ (.slice a2 (s.tests.length + 1) c2)) (.slice xa xs.length xc) xs := HXO.out _ ((Touch.of_ext (hxd.trans hxe)).trans hTf) hxw
                 have hln : (s.tests ++ [(t1, t2)]).length = s.tests.length + 1 := by simp
                 have HFI := Lib.hid (show (Ext wq (w2.setCell ⟨wq.heap.size, 1, none⟩ (.slice a2 (s.tests.length + 1) c2)) ∧ Hid (SackAt (w2.setCell ⟨wq.heap.size, 1, none⟩ (.slice a2 (s.tests.length + 1) c2)) (.agg #[.slice xa xs.length xc, .slice a2 (s.tests ++ [(t1, t2)]).length c2]) ⟨xs, s.tests ++ [(t1, t2)]⟩) ∧ Hid (isSackB ⟨xs, s.tests ++ [(t1, t2)]⟩ = true ∧ MoreP s ⟨xs, s.tests ++ [(t1, t2)]⟩) ∧ ((w2.setCell ⟨wq.heap.size, 1, none⟩ (.slice a2 (s.tests.length + 1) c2))).cell? ⟨wq.heap.size, 0, none⟩ = some (.slice xa xs.length xc) ∧ ((w2.setCell ⟨wq.heap.size, 1, none⟩ (.slice a2 (s.tests.length + 1) c2))).cell? ⟨wq.heap.size, 1, none⟩ = some (.slice a2 (s.tests ++ [(t1, t2)]).length c2)) from ⟨hxw, by rw [hln]; exact ⟨_, _, rfl, hshx, hro⟩, ⟨more_tests HXK2.out.1 hcc.1 hcc.2, ⟨HXK2.out.2, [(t1, t2)], rfl⟩⟩, by go_simp, by rw [hln]; go_simp⟩)
                 clear hln hshx hro hTf hxw hk0 hk1
                 go_wp2_with fail
                 go_meet
                 case rel => exact ⟨s.tests ++ [(t1, t2)], a2, c2, HFI.out⟩
                exact AllReadyH.nil
               exact AllReadyH.nil
              exact AllReadyH.nil
             exact AllReadyH.nil
           | false =>
            have HF2 := Lib.hid (show isSackB ⟨xs, s.tests⟩ = true ∧ MoreP s ⟨xs, s.tests⟩ from ⟨HXK2.out.1, ⟨HXK2.out.2, [], by simp⟩⟩)
            have HF3 := Lib.hid (show SackAt wd (.agg #[.slice xa xs.length xc, .slice ta s.tests.length tc]) ⟨xs, s.tests⟩ from ⟨_, _, rfl, HXO.out _ (Touch.of_ext hxd) (hxc.trans hxd), RowOf.ext HTE.out (HXC.out.trans (hxc.trans hxd))⟩)
            go_wp2
            go_meet
            case rel => exact ⟨s.tests, ta, tc, hxc.trans hxd, HF3.out, HF2.out, K0, K1⟩
          case rest =>
           obtain ⟨ts, ya, yc, hxq, hsx, hxk3, m0, m1⟩ := hcut
           obtain ⟨we, rfl⟩ : ∃ we : World, we = wc := ⟨_, rfl⟩
           have HXE := Lib.hid (HXC.out.trans hxq)
           have HS5 := Lib.hid (fun W (h : Ext we W) => (⟨HS2.out W (hxq.trans h), h.cell m0, h.cell m1⟩ : _ ∧ _ ∧ _))
           have HKM := Lib.hid hxk3.out
           have HSXE := Lib.hid (fun W (h : Ext we W) => hsx.out.ext h)
           clear K0 K1 KF k0 k1 kf hcc hxd hxc hxs HXO HSX HNB HS4 HXK2 z0 z1 z2 z3 z4 z5 z6 z7 d0 d1 e0 e1 hsx hxk3 m0 m1 hxq
           have hlx : s.shells.length ≤ xs.length := by obtain ⟨ys, hy⟩ := HKM.out.2.sh; have hy2 : xs = s.shells ++ ys := hy; rw [hy2, List.length_append]; omega
           have HXB := Lib.hid (sackB_of HKM.out.1)
           have HOS := Lib.hid (fun w1 (h : Ext w w1) => Origins_pz (HBW.out w1 h) (HSW.out w1 h) H4.out H5.out his)
           have HOX := Lib.hid (fun w1 (h : Ext we w1) => Origins_pz (HBW.out w1 (HXE.out.trans h)) (HSXE.out w1 h) H4.out HKM.out.1 (i := i) (Nat.lt_of_lt_of_le his hlx))
           have HWS := Lib.hid (fun w1 (h : Ext w w1) => Weather_pz (HBW.out w1 h) (HSW.out w1 h) H4.out H5.out)
           have HWX := Lib.hid (fun w1 (h : Ext we w1) => Weather_pz (HBW.out w1 (HXE.out.trans h)) (HSXE.out w1 h) H4.out HKM.out.1)
           have HPP := Lib.hid (fun (h : possB b ⟨xs, ts⟩ = true) => more_poss HBB.out HSB.out HXB.out HKM.out.2 h)
           have HMC := Lib.hid (fun (o : Org) (h : o ∈ couldOf b ⟨xs, ts⟩ i) => more_could HBB.out HSB.out HXB.out HKM.out.2 his h)
           have HMW := Lib.hid (fun (h : possB b ⟨xs, ts⟩ = true) (r y : Nat) (hr : r < b.rivers.length) (hy : (y : Int) < b.years) => more_wea HBB.out HSB.out HXB.out HKM.out.2 h hr hy)
           have HL1 := Lib.hid (could_short2 HBB.out s i)
           have HL2 := Lib.hid (could_short2 HBB.out ⟨xs, ts⟩ i)
           have HW1 := Lib.hid (fun (h : possB b s = true) => shape_weather HBB.out HSB.out h)
           have HW2 := Lib.hid (fun (h : possB b ⟨xs, ts⟩ = true) => shape_weather HBB.out HXB.out h)
           have hy1 := HBB.out.y1
           generalize couldOf b s i = L1 at *
           generalize couldOf b ⟨xs, ts⟩ i = L2 at *
           generalize weatherOf b s = P1 at *
           generalize weatherOf b ⟨xs, ts⟩ = P2 at *
           have hq := Ext.refl we
           obtain ⟨⟨⟨z0, z1, z2, z3, z4, z5, z6, z7⟩, ⟨d0, d1⟩, e0, e1⟩, k2, k3⟩ := HS5.out _ hq
           have tok1 : True := trivial
           have tok2 : True := trivial
           clear hlx
           go_upto_region 17 with (first
            | (go_at_call 20; have _t := tok1; refine (HOS.out _ (HXE.out.trans hq)).mono ?_; rintro e w' ⟨oa, oc, rfl, hx1, hp⟩; replace hq := hq.trans hx1; have HPO := Lib.hid hp; have hA := Ext.refl w'; clear hx1 hp tok1 _t z0 z1 z2 z3 z4 z5 z6 z7 d0 d1 e0 e1 k2 k3; obtain ⟨⟨⟨z0, z1, z2, z3, z4, z5, z6, z7⟩, ⟨d0, d1⟩, e0, e1⟩, k2, k3⟩ := HS5.out _ hq)
            | (go_at_call 20; refine (HOX.out _ hq).mono ?_; rintro e w' ⟨pa, pc, rfl, hx1, hp⟩; replace hq := hq.trans hx1; replace hA := hA.trans hx1; have HPX := Lib.hid hp; have hB := Ext.refl w'; clear hx1 hp z0 z1 z2 z3 z4 z5 z6 z7 d0 d1 e0 e1 k2 k3; obtain ⟨⟨⟨z0, z1, z2, z3, z4, z5, z6, z7⟩, ⟨d0, d1⟩, e0, e1⟩, k2, k3⟩ := HS5.out _ hq)
            | (go_at_call 23; have _t := tok2; refine (HWS.out _ (HXE.out.trans hq)).mono ?_; rintro e w' ⟨wa, wac, rfl, hx1, hp⟩; replace hq := hq.trans hx1; replace hA := hA.trans hx1; replace hB := hB.trans hx1; have HWO := Lib.hid hp; have hC := Ext.refl w'; clear hx1 hp tok2 _t z0 z1 z2 z3 z4 z5 z6 z7 d0 d1 e0 e1 k2 k3; obtain ⟨⟨⟨z0, z1, z2, z3, z4, z5, z6, z7⟩, ⟨d0, d1⟩, e0, e1⟩, k2, k3⟩ := HS5.out _ hq)
            | (go_at_call 23; refine (HWX.out _ hq).mono ?_; rintro e w' ⟨va, vc, rfl, hx1, hp⟩; replace hq := hq.trans hx1; replace hA := hA.trans hx1; replace hB := hB.trans hx1; replace hC := hC.trans hx1; have HVX := Lib.hid hp; clear hx1 hp z0 z1 z2 z3 z4 z5 z6 z7 d0 d1 e0 e1 k2 k3; obtain ⟨⟨⟨z0, z1, z2, z3, z4, z5, z6, z7⟩, ⟨d0, d1⟩, e0, e1⟩, k2, k3⟩ := HS5.out _ hq))
           obtain ⟨wf, rfl⟩ : ∃ wf : World, wf = w' := ⟨_, rfl⟩
           have HPOF := Lib.hid (fun W (h : Ext wf W) => HPO.out.ext (hA.trans h))
           have HPXF := Lib.hid (fun W (h : Ext wf W) => HPX.out.ext (hB.trans h))
           have HWOF := Lib.hid (fun W (h : Ext wf W) => SpansOff.ext HWO.out (hC.trans h))
           have HVXF := Lib.hid (fun W (h : Ext wf W) => SpansOff.ext HVX.out h)
           have HS6 := Lib.hid (fun W (h : Ext wf W) => HS5.out W (hq.trans h))
           have HXF := Lib.hid (HXE.out.trans hq)
           clear HPO HPX HWO HVX HS5 hA hB hC hq HOS HOX HWS HWX
           go_cut [18, 20, 22, 24, 198] from 141 to 198 (fun s18 s20 s22 s24 s198 W => s20 = .int .i64 (pz b ⟨xs, ts⟩) ∧ s198 = .bool false ∧ W = wf)
           case first =>
            cases hps : possB b s with
            | false =>
             have hpx : possB b ⟨xs, ts⟩ = false := by
              cases h : possB b ⟨xs, ts⟩ with
              | false => rfl
              | true => have := HPP.out h; rw [hps] at this; cases this
             have f1 : pz b s = 7 := by unfold pz; rw [hps]; rfl
             have f2 : pz b ⟨xs, ts⟩ = 7 := by unfold pz; rw [hpx]; rfl
             have HR := Lib.hid f2
             clear hps hpx
             go_wp2
             go_meet
             case rel => exact ⟨by rw [HR.out], rfl, rfl⟩
            | true =>
             have f1 : pz b s = 0 := by unfold pz; rw [hps]; rfl
             cases hpx : possB b ⟨xs, ts⟩ with
             | false =>
              have f2 : pz b ⟨xs, ts⟩ = 7 := by unfold pz; rw [hpx]; rfl
              have HR := Lib.hid f2
              clear hps hpx
              go_wp2
              go_meet
              case rel => exact ⟨by rw [HR.out], rfl, rfl⟩
             | true =>
              have f2 : pz b ⟨xs, ts⟩ = 0 := by unfold pz; rw [hpx]; rfl
              have HR := Lib.hid f2
              clear hps hpx
              go_wp2
              go_meet
              case rel => exact ⟨by rw [HR.out], rfl, rfl⟩
           case rest =>
            obtain ⟨rfl, rfl, rfl⟩ := hcut
            cases hpx : possB b ⟨xs, ts⟩ with
            | false =>
             have f2 : pz b ⟨xs, ts⟩ = 7 := by unfold pz; rw [hpx]; rfl
             clear hpx
             go_wp2_with (go_at_call 19; refine (HB.out.known _ HXF.out).mono ?_; rintro e w3 ⟨rfl, hx3⟩)
             go_ret
             exact ⟨rfl, HXF.out.trans hx3⟩
            | true =>
             have f2 : pz b ⟨xs, ts⟩ = 0 := by unfold pz; rw [hpx]; rfl
             generalize pz b ⟨xs, ts⟩ = zz at f2 ⊢
             subst f2
             have HSH1 := Lib.hid (HW1.out (HPP.out hpx))
             have HSH2 := Lib.hid (HW2.out hpx)
             have HMW2 := Lib.hid (HMW.out hpx)
             clear hpx HW1 HW2 HMW HPP
             obtain ⟨wg, rfl⟩ : ∃ wg : World, wg = wc := ⟨_, rfl⟩
             have t30 : decide ((30 : Int) < (L2.length : Int)) = false := by have := HL2.out; simp; omega
             have t31 : ((P1.length : Int) != (b.rivers.length : Int)) = false := by have := HSH1.out.1; rw [bne_eq_false_iff_eq]; omega
             have t32 : ((P2.length : Int) != (P1.length : Int)) = false := by have h1 := HSH1.out.1; have h2 := HSH2.out.1; rw [bne_eq_false_iff_eq]; omega
             go_wp2
             go_loopw [25] (fun i wr => ∃ k : Nat, k ≤ L2.length ∧ i = .int .i64 k ∧ Ext wg wr) (fun i _ => L2.length - (intOf i).toNat)
             case atStart => exact ⟨0, Nat.zero_le _, rfl, Ext.refl _⟩
             case round =>
              clear z0 z1 z2 z3 z4 z5 z6 z7 d0 d1 e0 e1 k2 k3
              obtain ⟨k, hk, rfl, hx⟩ := hrel
              obtain ⟨⟨⟨z0, z1, z2, z3, z4, z5, z6, z7⟩, ⟨d0, d1⟩, e0, e1⟩, k2, k3⟩ := HS6.out _ hx
              by_cases hlt : k < L2.length
              ·obtain ⟨_, _, hv1, _, _, p3⟩ := (HPXF.out _ hx).open
               injection hv1 with f1 f3 f4
               subst f1 f4
               obtain ⟨mb, mf, xo, rfl, hxo, f0, f5⟩ := p3 k hlt
               have HM2 := Lib.hid (HMC.out xo (List.mem_of_getElem? hxo.out))
               obtain ⟨xp, xq⟩ := xo
               simp only at f0 f5
               have x3 : decide ((k : Int) < (L2.length : Int)) = true := by simpa using hlt
               have i6 : (0 : Int) ≤ (k : Int) := by omega
               have i7 : (k : Int) < (L2.length : Int) := by omega
               clear p3 f3 hxo
               go_wp2_with (go_at_call 24; refine (has_yes (o := (xp, xq)) (HPOF.out _ hx) HL1.out HM2.out).mono ?_; rintro e w6 ⟨rfl, hx6⟩)
               go_roundw
               case rel => exact ⟨k + 1, by omega, by go_num, hx.trans hx6⟩
               case measure => simp [intOf]; omega
              ·have x3 : decide ((k : Int) < (L2.length : Int)) = false := by simp; omega
               obtain ⟨wh, rfl⟩ : ∃ wh : World, wh = wr := ⟨_, rfl⟩
               have HS7 := Lib.hid (fun W (h : Ext wh W) => HS6.out W (hx.trans h))
               have HXH := Lib.hid (HXF.out.trans hx)
               have HWH := Lib.hid (HWOF.out _ hx)
               have HVH := Lib.hid (HVXF.out _ hx)
               clear hx HPXF HPOF HS6 HWOF HVXF HMC
               go_wp2
               clear hk hlt x3
               go_loopw [26] (fun i wr => ∃ k : Nat, k ≤ P1.length ∧ i = .int .i64 k ∧ Ext wh wr) (fun i _ => P1.length - (intOf i).toNat)
               case atStart => exact ⟨0, Nat.zero_le _, rfl, Ext.refl _⟩
               case round =>
                clear z0 z1 z2 z3 z4 z5 z6 z7 d0 d1 e0 e1 k2 k3
                obtain ⟨k, hk, rfl, hx⟩ := hrel
                by_cases hlt : k < P1.length
                ·as_aux_lemma =>
                  have hkr : k < b.rivers.length := by have := HSH1.out.1; omega
                  obtain ⟨_, _, hv1, _, _, p3⟩ := HWH.out.open
                  injection hv1 with f1 f3 f4
                  subst f1 f4
                  obtain ⟨ub, uf, u1, p1, rfl, hp1, c0, hpa1⟩ := p3 k hlt
                  obtain ⟨_, _, hv2, _, _, p4⟩ := HVH.out.open
                  injection hv2 with f1 f5 f4
                  subst f1 f4
                  obtain ⟨vb, vf, v1, p2, rfl, hp2, c1, hpa2⟩ := p4 k (by have h1 := HSH1.out.1; have h2 := HSH2.out.1; omega)
                  obtain ⟨qa, qc, rfl, _, _, q3⟩ := hpa1.open
                  obtain ⟨ea, ec, rfl, _, _, q4⟩ := hpa2.open
                  have Q3 := Lib.hid q3
                  have Q4 := Lib.hid q4
                  have HY1 := Lib.hid (HSH1.out.2 p1 (List.mem_of_getElem? hp1.out))
                  have HY2 := Lib.hid (HSH2.out.2 p2 (List.mem_of_getElem? hp2.out))
                  have t33 : ((p1.length : Int) != b.years) = false := by rw [bne_eq_false_iff_eq]; exact HY1.out
                  have t34 : ((p2.length : Int) != b.years) = false := by rw [bne_eq_false_iff_eq]; exact HY2.out
                  have x3 : decide ((k : Int) < (P1.length : Int)) = true := by simpa using hlt
                  have i6 : (0 : Int) ≤ (k : Int) := by omega
                  have i7 : (k : Int) < (P1.length : Int) := by omega
                  have i8 : (k : Int) < (P2.length : Int) := by have h1 := HSH1.out.1; have h2 := HSH2.out.1; omega
                  obtain ⟨wo, rfl⟩ : ∃ wo : World, wo = wr := ⟨_, rfl⟩
                  have HF := Lib.hid (fun W (h : Ext wo W) => (⟨(HS7.out W (hx.trans h)).1.1.1, (hx.trans h).cell c0, (hx.trans h).cell c1⟩ : _ ∧ _ ∧ _))
                  have HXO := Lib.hid hx
                  clear p3 p4 q3 q4 hpa1 hpa2 f3 f5 c0 c1 hx
                  go_upto_region 31 with fail
                  refine region_reads (C := fun W => Ext wo W) (by kernel_rfl) (by kernel_rfl) ((Ext.refl wo).drew) ?_
                  repeat (first | go_big_quiet_skip | (go_big_quiet_want; go_big_quiet_op; first | go_big_quiet_on | (refine ⟨_, fun W hW => rfl, ?_⟩; go_big_quiet_on)) | (go_big_quiet_want; refine ⟨?_, fun W hW => ?_, ?_⟩; rotate_left; (· (obtain ⟨y0, y1, y2⟩ := HF.out W hW); go_simp; (first | with_reducible rfl)); (try simp only [Act.put, yA, yB, yC]); go_big_quiet_on))
                  refine wpQuiet_nil ?_
                  intro wq hq
                  go_wp2
                  go_loopw [27] (fun i wr => ∃ j : Nat, (j : Int) ≤ b.years ∧ i = .int .i64 j ∧ Ext wo wr) (fun i _ => (b.years - intOf i).toNat)
                  case atStart => exact ⟨0, by omega, rfl, hq⟩
                  case round =>
                   clear hq
                   obtain ⟨j, hj, rfl, hxj⟩ := hrel
                   obtain ⟨y0, y1, y2⟩ := HF.out _ hxj
                   by_cases hjt : (j : Int) < b.years
                   ·as_aux_lemma =>
                     have hj1 : j < p1.length := by have := HY1.out; omega
                     have hj2 : j < p2.length := by have := HY2.out; omega
                     obtain ⟨gb, gf, g, rfl, hg, f0, f1⟩ := Q3.out j hj1
                     obtain ⟨hb, hf, g', rfl, hg', f2, f3⟩ := Q4.out j hj2
                     have hmw := HMW2.out k j hkr hjt
                     rw [at2_at hp1.out hg.out, at2_at hp2.out hg'.out] at hmw
                     obtain ⟨gl, gh⟩ := g
                     obtain ⟨hl, hh⟩ := g'
                     simp only at hmw f0 f1 f2 f3
                     have n1 : decide (hl < gl) = false := by simp; omega
                     have n2 : decide (gh < hh) = false := by simp; omega
                     have x4 : decide ((j : Int) < b.years) = true := by simpa using hjt
                     have i9 : (0 : Int) ≤ (j : Int) := by omega
                     have i10 : (j : Int) < (p1.length : Int) := by omega
                     have i11 : (j : Int) < (p2.length : Int) := by omega
                     have HG := Lib.hid (fun W (h : Ext wr W) => (⟨HF.out W (hxj.trans h), (HXO.out.trans (hxj.trans h)).cell f0, (HXO.out.trans (hxj.trans h)).cell f1, (HXO.out.trans (hxj.trans h)).cell f2, (HXO.out.trans (hxj.trans h)).cell f3⟩ : _ ∧ _ ∧ _ ∧ _ ∧ _))
                     clear f0 f1 f2 f3 hmw hg hg'
                     go_upto_region 36 with fail
                     refine region_reads (C := fun W => Ext wr W) (by kernel_rfl) (by kernel_rfl) ((Ext.refl wr).drew) ?_
                     repeat (first | go_big_quiet_skip | (go_big_quiet_want; go_big_quiet_op; first | go_big_quiet_on | (refine ⟨_, fun W hW => rfl, ?_⟩; go_big_quiet_on)) | (go_big_quiet_want; refine ⟨?_, fun W hW => ?_, ?_⟩; rotate_left; (· (obtain ⟨⟨y0, y1, y2⟩, y3, y4, y5, y6⟩ := HG.out W hW); go_simp; (first | with_reducible rfl)); (try simp only [Act.put, yA, yB, yC]); go_big_quiet_on))
                     refine wpQuiet_nil ?_
                     intro wq hq
                     go_wp2
                     go_roundw
                     case rel => exact ⟨j + 1, by omega, by go_num, hxj.trans hq⟩
                     case measure => simp [intOf]; omega
                   ·have x4 : decide ((j : Int) < b.years) = false := by simpa using hjt
                    go_wp2
                    go_roundw
                    case rel => exact ⟨k + 1, by omega, by go_num, HXO.out.trans hxj⟩
                    case measure => simp [intOf]; omega
                ·have x3 : decide ((k : Int) < (P1.length : Int)) = false := by simp; omega
                 go_wp2_with (go_at_call 19; refine (HB.out.known _ (HXH.out.trans hx)).mono ?_; rintro e w3 ⟨rfl, hx3⟩)
                 go_ret
                 exact ⟨rfl, (HXH.out.trans hx).trans hx3⟩
end Go.Proofs.YtnhpibnneidmgaaGreatDoor
