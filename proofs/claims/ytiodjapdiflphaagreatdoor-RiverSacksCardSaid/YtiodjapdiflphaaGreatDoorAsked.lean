/- possible, asked. -/
import Derived.Test.YtiodjapdiflphaaGreatDoorWord
namespace Go.Proofs.YtiodjapdiflphaaGreatDoor
open Go.RowKit
attribute [local go_sem] Oper.semAt_some
def possB (b : Book) (s : Sack) : Bool := !(truthsOf b s).isEmpty
set_option maxRecDepth 100000 in
set_option maxHeartbeats 4000000 in
theorem possible_any (b : Book) (s : Sack) (rv sv tv : Value) (w : World) (hB : BookB b) (hS : SackB s) (hr : RiversAt w rv b.rivers) (hs : ShellsAt w sv s.shells) (ht : RowOf testC w tv s.tests) :
  Calls Tryz.prog 48 #[sackV b rv sv tv] w fun e w' => e = .returned (.bool (possB b s)) ∧ Ext w w' := by
 have HIT := Lib.hid (fun (W1 : World) (h : Ext w W1) (O0 : Nat → Prop) (hO : ∀ j, O0 j → w.heap.size ≤ j) => truths_iter b s rv sv tv w W1 O0 hB hS hr hs ht h hO)
 obtain ⟨ra, rc, rfl, _⟩ := hr.open
 obtain ⟨sa, sc, rfl, _⟩ := hs.open
 obtain ⟨ta, tc, rfl, _⟩ := RowAt.open ht
 clear hr hs ht
 unfold sackV at HIT ⊢
 refine (callsIn_wide (n := 0)).1 ?_
 refine callsIn_of_wp_marks Tryz.func48 rfl trivial ?_ rfl
 simp only [Tryz.ntmps48, List.size_toArray, List.length_cons, List.length_nil, Nat.reduceAdd, Nat.reduceSub, Array.replicate_succ, Array.replicate_zero, List.push_toArray, List.append_toArray, List.nil_append, List.cons_append]
 gi_wp2
 have h0 : Ext w ((w.alloc (.cells #[.int .i64 b.years, .slice ra b.rivers.length rc, .slice sa s.shells.length sc, .slice ta s.tests.length tc] 89)).alloc (.cells #[.bool false] 4)) := ((Ext.refl w).alloc _).alloc _
 have hb0 : ((w.alloc (.cells #[.int .i64 b.years, .slice ra b.rivers.length rc, .slice sa s.shells.length sc, .slice ta s.tests.length tc] 89)).alloc (.cells #[.bool false] 4)).heap[w.heap.size + 1]? = some (.cells #[.bool false] 4) := by
  have := World.alloc_heap_new (w.alloc (.cells #[.int .i64 b.years, .slice ra b.rivers.length rc, .slice sa s.shells.length sc, .slice ta s.tests.length tc] 89)) (.cells #[.bool false] 4); rwa [World.size_alloc] at this
 generalize hW0 : ((w.alloc (.cells #[.int .i64 b.years, .slice ra b.rivers.length rc, .slice sa s.shells.length sc, .slice ta s.tests.length tc] 89)).alloc (.cells #[.bool false] 4)) = W0 at h0 hb0 ⊢
 have hz : W0.heap.size = w.heap.size + 2 := by rw [← hW0]; simp
 clear hW0
 refine wpIn_rangeF (gf := 50) (fi := #[.agg #[.int .i64 b.years, .slice ra b.rivers.length rc, .slice sa s.shells.length sc, .slice ta s.tests.length tc]]) (lb := #[]) (by rfl) enters_truths StIn (fun O O' A x v h k => StIn.less k h) (truthsOf b s) (fun j => j = w.heap.size + 1) ?hM ?hiter
  (fun k O W => k = 0 ∧ (∀ j, O j ↔ j = w.heap.size + 1) ∧ Ext w W ∧ W.heap[w.heap.size + 1]? = some (.cells #[.bool false] 4)) (fun cd W => cd = .ret ∧ possB b s = true ∧ Ext w W ∧ W.cell? ⟨w.heap.size + 1, 0, none⟩ = some (.bool true)) ?hI ?hIx ⟨rfl, fun j => Iff.rfl, h0, hb0⟩
  (fun k O x v a' W => ∃ (u0 u1 u3 u4 u5 : Value), a' = { tmps := #[u0, u1, .pointer (some ⟨w.heap.size + 1, 0, none⟩), u3, u4, u5], defers := [] }) (fun _ _ _ _ _ _ _ h _ => h) ?hassign ?hbody ?hdone ?hstop
 case hM => intro j hj; omega
 case hiter =>
  intro W1 h1 h2
  exact HIT.out W1 (h0.trans h1) _ (fun j hj => by rcases hj with hj | hj <;> omega)
 case hI =>
  rintro k O A B ⟨h1, h4, h2, h3⟩ q
  exact ⟨h1, h4, h2.quiet (by omega) q, q.keep _ _ h3 (.inl (by omega))⟩
 case hIx =>
  rintro cd A B ⟨h1, h2, h3, h4⟩ q
  exact ⟨h1, h2, h3.quiet (by omega) q, q.cell_lt h4 (by simp only []; omega)⟩
 case hassign =>
  intro l k O x v W K hi hx hen hK
  have HK := Lib.hid hK
  clear hK
  gi_wp2
  refine HK.out _ W (Ext.refl W) ?_
  (repeat apply Exists.intro)
  rfl
 case hbody =>
  rintro l k O x v a' W hl ⟨r, hr⟩ hO ⟨rfl, hOj, hx, hb⟩ hxk hA hsz
  obtain ⟨u0, hA⟩ := hA
  obtain ⟨u1, hA⟩ := hA
  obtain ⟨u3, hA⟩ := hA
  obtain ⟨u4, hA⟩ := hA
  obtain ⟨u5, hA⟩ := hA
  subst hA
  obtain ⟨k1, k2⟩ := box_cell hb
  have hp : possB b s = true := by
   unfold possB
   cases ht : truthsOf b s with
   | nil => rw [ht] at hxk; cases hxk
   | cons y l => rfl
  gi_wp2
  exact ⟨Touch.setCell _ ((hOj _).2 rfl), rfl, hp, hx.setCell (p := ⟨w.heap.size + 1, 0, none⟩) (by simp) _, by go_simp⟩
 case hdone =>
  rintro D O W hD hO ⟨h1, hOj, hx, hb⟩ hd
  have hp : possB b s = false := by unfold possB; rw [List.length_eq_zero_iff] at h1; rw [h1]; rfl
  obtain ⟨k1, k2⟩ := box_cell hb
  have hd2 := (Touch.setCell (M := (· = w.heap.size + 1)) (A := W) (a := ⟨w.heap.size + 1, 0, none⟩) (.bool false) rfl).keep _ _ hd (by omega)
  have hq2 := Quiet.putObj (n := W0.heap.size) (.deferred none) hd2 hD rfl
  have hk1 : (W.setCell ⟨w.heap.size + 1, 0, none⟩ (.bool false)).cell? ⟨w.heap.size + 1, 0, none⟩ = some (.bool false) := by go_simp
  have hk2 := hq2.cell_lt hk1 (by simp only []; omega)
  have hx2 := (hx.setCell (p := ⟨w.heap.size + 1, 0, none⟩) (by simp) (.bool false)).quiet (by omega) hq2
  clear hq2 hk1
  gi_wp2
  refine ⟨by simp, .inl ⟨_, _, rfl, run_takeDeferred hd2, ?_⟩⟩
  exact ⟨.bool false, by simp [results, Tryz.results48, go_sem, hk2], by rw [hp], hx2⟩
 case hstop =>
  rintro D cd W hD ⟨rfl, hp, hx, hc⟩ hd
  have hq2 := Quiet.putObj (n := W0.heap.size) (.deferred none) hd hD rfl
  have hk2 := hq2.cell_lt hc (by simp only []; omega)
  have hx2 := hx.quiet (by omega) hq2
  gi_wp2
  refine ⟨by simp, .inl ⟨_, _, rfl, run_takeDeferred hd, ?_⟩⟩
  exact ⟨.bool true, by simp [results, Tryz.results48, go_sem, hk2], by rw [hp], hx2⟩
/-! ### asked -/
def askArg (b : Book) (s : Sack) (fine : Bool) : Bool := isBookB b && isSackB s && fine
def askN (b : Book) (s : Sack) (fine : Bool) : Int := if askArg b s fine then (if possB b s then 0 else 7) else 2
def zeroSack : Value := .agg #[.int .i64 0, .slice none 0 0, .slice none 0 0, .slice none 0 0]
def AskRes (b : Book) (s : Sack) (rv sv tv : Value) (fine : Bool) (w : World) (e : Ending) (w' : World) : Prop :=
 e = .returned (.tuple #[if askN b s fine = 0 then sackV b rv sv tv else zeroSack, .int .i64 (askN b s fine)]) ∧ Ext w w'
set_option maxRecDepth 100000 in
set_option maxHeartbeats 4000000 in
theorem asked_any (rv sv tv : Value) (b : Book) (s : Sack) (fine : Bool) (w : World) (hr : RiversAt w rv b.rivers) (hs : ShellsAt w sv s.shells) (ht : RowOf testC w tv s.tests) :
  Calls Tryz.prog 35 #[.agg #[.int .i64 b.years, rv], .agg #[sv, tv], .bool fine] w (AskRes b s rv sv tv fine w) := by
 have HB := Lib.hid (fun w1 (hx : Ext w w1) => isBook_any (.agg #[.int .i64 b.years, rv]) b w1 ⟨rv, rfl, hr.ext hx⟩)
 have HH := Lib.hid (fun w1 (hx : Ext w w1) => isSack_any (.agg #[sv, tv]) s w1 ⟨sv, tv, rfl, hs.ext hx, RowOf.ext ht hx⟩)
 have HPO := Lib.hid (fun (w1 : World) (hx : Ext w w1) (h1 : isBookB b = true) (h2 : isSackB s = true) => possible_any b s rv sv tv w1 (bookB_of h1) (sackB_of h2) (hr.ext hx) (hs.ext hx) (RowOf.ext ht hx))
 obtain ⟨ra, rc, rfl, _⟩ := hr.open
 obtain ⟨sa, sc, rfl, _⟩ := hs.open
 obtain ⟨ta, tc, rfl, _⟩ := RowAt.open ht
 have hx0 : Ext w (((w.alloc (.cells #[.int .i64 b.years, .slice ra b.rivers.length rc] 24)).alloc (.cells #[.slice sa s.shells.length sc, .slice ta s.tests.length tc] 28)).alloc (.cells #[.int .i64 0, .slice none 0 0, .slice none 0 0, .slice none 0 0] 89)) := (((Ext.refl w).alloc _).alloc _).alloc _
 have HX0 := Lib.hid hx0
 have HS := Lib.hid (fun W (h : Ext (((w.alloc (.cells #[.int .i64 b.years, .slice ra b.rivers.length rc] 24)).alloc (.cells #[.slice sa s.shells.length sc, .slice ta s.tests.length tc] 28)).alloc (.cells #[.int .i64 0, .slice none 0 0, .slice none 0 0, .slice none 0 0] 89)) W) => (⟨h.cell (by go_simp), h.cell (by go_simp), h.cell (by go_simp), h.cell (by go_simp), h.cell (by go_simp), h.cell (by go_simp), h.cell (by go_simp), h.cell (by go_simp), (h.frozen (by simp)).trans (by go_simp), (h.frozen (by simp)).trans (by go_simp), (h.frozen (by simp)).trans (by go_simp), (h.frozen (by simp)).trans (by go_simp)⟩ :
  W.cell? ⟨w.heap.size, 0, none⟩ = some (.int .i64 b.years) ∧ W.cell? ⟨w.heap.size, 1, none⟩ = some (.slice ra b.rivers.length rc) ∧ W.cell? ⟨w.heap.size + 1, 0, none⟩ = some (.slice sa s.shells.length sc) ∧ W.cell? ⟨w.heap.size + 1, 1, none⟩ = some (.slice ta s.tests.length tc) ∧
  W.cell? ⟨w.heap.size + 2, 0, none⟩ = some (.int .i64 0) ∧ W.cell? ⟨w.heap.size + 2, 1, none⟩ = some (.slice none 0 0) ∧ W.cell? ⟨w.heap.size + 2, 2, none⟩ = some (.slice none 0 0) ∧ W.cell? ⟨w.heap.size + 2, 3, none⟩ = some (.slice none 0 0) ∧
  W.frozen? ⟨w.heap.size + 2, 0, none⟩ = false ∧ W.frozen? ⟨w.heap.size + 2, 1, none⟩ = false ∧ W.frozen? ⟨w.heap.size + 2, 2, none⟩ = false ∧ W.frozen? ⟨w.heap.size + 2, 3, none⟩ = false))
 have hy := Ext.refl (((w.alloc (.cells #[.int .i64 b.years, .slice ra b.rivers.length rc] 24)).alloc (.cells #[.slice sa s.shells.length sc, .slice ta s.tests.length tc] 28)).alloc (.cells #[.int .i64 0, .slice none 0 0, .slice none 0 0, .slice none 0 0] 89))
 have hno : ∀ n, askN b s fine = n → n ≠ 0 → ∀ w', Ext w w' → AskRes b s (.slice ra b.rivers.length rc) (.slice sa s.shells.length sc) (.slice ta s.tests.length tc) fine w (.returned (.tuple #[zeroSack, .int .i64 n])) w' := fun n h hn w' hx => ⟨by rw [h, if_neg hn], hx⟩
 have hyes : askN b s fine = 0 → ∀ w', Ext w w' → AskRes b s (.slice ra b.rivers.length rc) (.slice sa s.shells.length sc) (.slice ta s.tests.length tc) fine w (.returned (.tuple #[.agg #[.int .i64 b.years, .slice ra b.rivers.length rc, .slice sa s.shells.length sc, .slice ta s.tests.length tc], .int .i64 0])) w' := fun h w' hx => ⟨by rw [h, if_pos rfl]; rfl, hx⟩
 have HNO := Lib.hid hno
 have HYES := Lib.hid hyes
 have hPO := HPO
 clear HPO hr hs ht hx0
 unfold sackV at hPO
 cases h1 : isBookB b with
 | false =>
  rw [h1] at HB
  have HF := Lib.hid (HNO.out 2 (by unfold askN askArg; simp [h1]) (by decide))
  clear HNO HYES hno hyes
  try clear h1
  try clear h2
  try clear h3
  try clear h4
  go_enter Tryz.func35, Tryz.ntmps35
  go_wp2_with (first | (go_at_call 46; refine (HB.out _ (HX0.out.trans hy)).mono ?_; rintro e w1 ⟨rfl, hx1⟩; replace hy := hy.trans hx1; clear hx1; obtain ⟨z0, z1, z2, z3, z4, z5, z6, z7, y0, y1, y2, y3⟩ := HS.out _ hy))
  refine bodyPost_ret (v := .tuple #[zeroSack, .int .i64 2]) (by simp [results, Tryz.results35, go_sem, zeroSack, *]) rfl (HF.out _ (by repeat (first | exact HX0.out.trans hy | apply Ext.alloc | refine Ext.setCell ?_ (by simp only []; omega) _)))
 | true =>
  rw [h1] at HB
  cases h2 : isSackB s with
  | false =>
   rw [h2] at HH
   have HF := Lib.hid (HNO.out 2 (by unfold askN askArg; simp [h1, h2]) (by decide))
   clear HNO HYES hno hyes
   try clear h1
   try clear h2
   try clear h3
   try clear h4
   go_enter Tryz.func35, Tryz.ntmps35
   go_wp2_with (first | (go_at_call 46; refine (HB.out _ (HX0.out.trans hy)).mono ?_; rintro e w1 ⟨rfl, hx1⟩; replace hy := hy.trans hx1; clear hx1; obtain ⟨z0, z1, z2, z3, z4, z5, z6, z7, y0, y1, y2, y3⟩ := HS.out _ hy) | (go_at_call 47; refine (HH.out _ (HX0.out.trans hy)).mono ?_; rintro e w2 ⟨rfl, hx1⟩; replace hy := hy.trans hx1; clear hx1 z0 z1 z2 z3 z4 z5 z6 z7 y0 y1 y2 y3; obtain ⟨z0, z1, z2, z3, z4, z5, z6, z7, y0, y1, y2, y3⟩ := HS.out _ hy))
   refine bodyPost_ret (v := .tuple #[zeroSack, .int .i64 2]) (by simp [results, Tryz.results35, go_sem, zeroSack, *]) rfl (HF.out _ (by repeat (first | exact HX0.out.trans hy | apply Ext.alloc | refine Ext.setCell ?_ (by simp only []; omega) _)))
  | true =>
   rw [h2] at HH
   have HPP := Lib.hid (fun w1 hx => hPO.out w1 hx h1 h2)
   clear hPO
   cases h3 : fine with
   | false =>
    rw [h3] at HNO
    have HF := Lib.hid (HNO.out 2 (by unfold askN askArg; simp [h1, h2]) (by decide))
    clear HNO HYES hno hyes
    try clear h1
    try clear h2
    try clear h3
    try clear h4
    go_enter Tryz.func35, Tryz.ntmps35
    go_wp2_with (first | (go_at_call 46; refine (HB.out _ (HX0.out.trans hy)).mono ?_; rintro e w1 ⟨rfl, hx1⟩; replace hy := hy.trans hx1; clear hx1; obtain ⟨z0, z1, z2, z3, z4, z5, z6, z7, y0, y1, y2, y3⟩ := HS.out _ hy) | (go_at_call 47; refine (HH.out _ (HX0.out.trans hy)).mono ?_; rintro e w2 ⟨rfl, hx1⟩; replace hy := hy.trans hx1; clear hx1 z0 z1 z2 z3 z4 z5 z6 z7 y0 y1 y2 y3; obtain ⟨z0, z1, z2, z3, z4, z5, z6, z7, y0, y1, y2, y3⟩ := HS.out _ hy))
    refine bodyPost_ret (v := .tuple #[zeroSack, .int .i64 2]) (by simp [results, Tryz.results35, go_sem, zeroSack, *]) rfl (HF.out _ (by repeat (first | exact HX0.out.trans hy | apply Ext.alloc | refine Ext.setCell ?_ (by simp only []; omega) _)))
   | true =>
    rw [h3] at HNO HYES
    cases h4 : possB b s with
    | false =>
     rw [h4] at HPP
     have HF := Lib.hid (HNO.out 7 (by unfold askN askArg; simp [h1, h2, h4]) (by decide))
     clear HNO HYES hno hyes
     try clear h1
     try clear h2
     try clear h3
     try clear h4
     go_enter Tryz.func35, Tryz.ntmps35
     go_wp2_with (first | (go_at_call 46; refine (HB.out _ (HX0.out.trans hy)).mono ?_; rintro e w1 ⟨rfl, hx1⟩; replace hy := hy.trans hx1; clear hx1; obtain ⟨z0, z1, z2, z3, z4, z5, z6, z7, y0, y1, y2, y3⟩ := HS.out _ hy) | (go_at_call 47; refine (HH.out _ (HX0.out.trans hy)).mono ?_; rintro e w2 ⟨rfl, hx1⟩; replace hy := hy.trans hx1; clear hx1 z0 z1 z2 z3 z4 z5 z6 z7 y0 y1 y2 y3; obtain ⟨z0, z1, z2, z3, z4, z5, z6, z7, y0, y1, y2, y3⟩ := HS.out _ hy) | (go_at_call 48; refine (HPP.out _ ((HX0.out.trans hy).trans ((Ext.refl _).alloc _))).mono ?_; rintro e w3 ⟨rfl, hx1⟩; have c0 := hx1.cell (a := ⟨w2.heap.size, 0, none⟩) (v := .int .i64 b.years) (by go_simp); have c1 := hx1.cell (a := ⟨w2.heap.size, 1, none⟩) (v := .slice ra b.rivers.length rc) (by go_simp); have c2 := hx1.cell (a := ⟨w2.heap.size, 2, none⟩) (v := .slice sa s.shells.length sc) (by go_simp); have c3 := hx1.cell (a := ⟨w2.heap.size, 3, none⟩) (v := .slice ta s.tests.length tc) (by go_simp); replace hy := (hy.alloc _).trans hx1; clear hx1 z0 z1 z2 z3 z4 z5 z6 z7 y0 y1 y2 y3; obtain ⟨z0, z1, z2, z3, z4, z5, z6, z7, y0, y1, y2, y3⟩ := HS.out _ hy))
     refine bodyPost_ret (v := .tuple #[zeroSack, .int .i64 7]) (by simp [results, Tryz.results35, go_sem, zeroSack, *]) rfl (HF.out _ (by repeat (first | exact HX0.out.trans hy | apply Ext.alloc | refine Ext.setCell ?_ (by simp only []; omega) _)))
    | true =>
     rw [h4] at HPP
     have HF := Lib.hid (HYES.out (by unfold askN askArg; simp [h1, h2, h4]))
     clear HNO HYES hno hyes
     try clear h1
     try clear h2
     try clear h3
     try clear h4
     go_enter Tryz.func35, Tryz.ntmps35
     go_wp2_with (first | (go_at_call 46; refine (HB.out _ (HX0.out.trans hy)).mono ?_; rintro e w1 ⟨rfl, hx1⟩; replace hy := hy.trans hx1; clear hx1; obtain ⟨z0, z1, z2, z3, z4, z5, z6, z7, y0, y1, y2, y3⟩ := HS.out _ hy) | (go_at_call 47; refine (HH.out _ (HX0.out.trans hy)).mono ?_; rintro e w2 ⟨rfl, hx1⟩; replace hy := hy.trans hx1; clear hx1 z0 z1 z2 z3 z4 z5 z6 z7 y0 y1 y2 y3; obtain ⟨z0, z1, z2, z3, z4, z5, z6, z7, y0, y1, y2, y3⟩ := HS.out _ hy) | (go_at_call 48; refine (HPP.out _ ((HX0.out.trans hy).trans ((Ext.refl _).alloc _))).mono ?_; rintro e w3 ⟨rfl, hx1⟩; have c0 := hx1.cell (a := ⟨w2.heap.size, 0, none⟩) (v := .int .i64 b.years) (by go_simp); have c1 := hx1.cell (a := ⟨w2.heap.size, 1, none⟩) (v := .slice ra b.rivers.length rc) (by go_simp); have c2 := hx1.cell (a := ⟨w2.heap.size, 2, none⟩) (v := .slice sa s.shells.length sc) (by go_simp); have c3 := hx1.cell (a := ⟨w2.heap.size, 3, none⟩) (v := .slice ta s.tests.length tc) (by go_simp); replace hy := (hy.alloc _).trans hx1; clear hx1 z0 z1 z2 z3 z4 z5 z6 z7 y0 y1 y2 y3; obtain ⟨z0, z1, z2, z3, z4, z5, z6, z7, y0, y1, y2, y3⟩ := HS.out _ hy))
     refine bodyPost_ret (v := .tuple #[(.agg #[.int .i64 b.years, .slice ra b.rivers.length rc, .slice sa s.shells.length sc, .slice ta s.tests.length tc]), .int .i64 0]) (by simp [results, Tryz.results35, go_sem, *]) rfl (HF.out _ (by repeat (first | exact HX0.out.trans hy | apply Ext.alloc | refine Ext.setCell ?_ (by simp only []; omega) _)))
theorem asked_cases {b : Book} {s : Sack} {fine : Bool} (h : askN b s fine = 0) : isBookB b = true ∧ isSackB s = true ∧ fine = true ∧ possB b s = true := by
 unfold askN askArg at h
 cases h1 : isBookB b <;> cases h2 : isSackB s <;> cases fine <;> cases h4 : possB b s <;> simp_all
end Go.Proofs.YtiodjapdiflphaaGreatDoor
/- Origins. -/
namespace Go.Proofs.YtiodjapdiflphaaGreatDoor
open Go.RowKit
def OriginsRes (b : Book) (s : Sack) (i : Int) (w : World) (e : Ending) (w' : World) : Prop :=
 ∃ v, e = .returned (.tuple #[v, .int .i64 (askN b s (inB i 0 (s.shells.length - 1)))]) ∧ Ext w w' ∧ PairsAt w' v (if askN b s (inB i 0 (s.shells.length - 1)) = 0 then couldOf b s i.toNat else [])
set_option maxRecDepth 100000 in
set_option maxHeartbeats 8000000 in
theorem Origins_no (bv sv : Value) (b : Book) (s : Sack) (i : Int) (w : World) (hb : BookAt w bv b) (hs : SackAt w sv s) (hn : ¬ askN b s (inB i 0 (s.shells.length - 1)) = 0) : Calls Tryz.prog 14 #[bv, sv, .int .i64 i] w (OriginsRes b s i w) := by
 obtain ⟨rv, rfl, hr⟩ := hb
 obtain ⟨sv, tv, rfl, hs, ht⟩ := hs
 have HA := Lib.hid (fun (w1 : World) (hx : Ext w w1) => asked_any rv sv tv b s (inB i 0 (s.shells.length - 1)) w1 (hr.ext hx) (hs.ext hx) (RowOf.ext ht hx))
 unfold AskRes zeroSack at HA
 rw [if_neg hn] at HA
 have hres : ∀ w', Ext w w' → OriginsRes b s i w (.returned (.tuple #[.slice none 0 0, .int .i64 (askN b s (inB i 0 (s.shells.length - 1)))])) w' := fun w' hx => ⟨_, rfl, hx, by rw [if_neg hn]; exact RowOf.nil _ _⟩
 obtain ⟨n, hnn⟩ : ∃ n, n = askN b s (inB i 0 (s.shells.length - 1)) := ⟨_, rfl⟩
 rw [← hnn] at hn HA hres
 clear hnn
 have t0 : (n == 0) = false := by simpa using hn
 obtain ⟨ra, rc, rfl, _⟩ := hr.open
 obtain ⟨sa, sc, rfl, hsl, hsm, _⟩ := hs.open
 obtain ⟨ta, tc, rfl, _⟩ := RowAt.open ht
 have HRES := Lib.hid hres
 have hmix : Tryz.prog.follows .mixedOrders = true := by kernel_rfl
 have hx0 : Ext w ((w.alloc (.cells #[.int .i64 b.years, .slice ra b.rivers.length rc] 24)).alloc (.cells #[.slice sa s.shells.length sc, .slice ta s.tests.length tc] 28)) := ((Ext.refl w).alloc _).alloc _
 have HX0 := Lib.hid hx0
 have HS := Lib.hid (fun W (h : Ext ((w.alloc (.cells #[.int .i64 b.years, .slice ra b.rivers.length rc] 24)).alloc (.cells #[.slice sa s.shells.length sc, .slice ta s.tests.length tc] 28)) W) => (⟨h.cell (by go_simp), h.cell (by go_simp), h.cell (by go_simp), h.cell (by go_simp)⟩ : (fun w' => w'.cell? ⟨w.heap.size, 0, none⟩ = some (.int .i64 b.years) ∧ w'.cell? ⟨w.heap.size, 1, none⟩ = some (.slice ra b.rivers.length rc) ∧ w'.cell? ⟨w.heap.size + 1, 0, none⟩ = some (.slice sa s.shells.length sc) ∧ w'.cell? ⟨w.heap.size + 1, 1, none⟩ = some (.slice ta s.tests.length tc)) W))
 have E1 : IntKind.i64.wrap ((s.shells.length : Int) - 1) = (s.shells.length : Int) - 1 := IntWalk.i64_in _ (by omega)
 clear hr hs ht hx0 hres
 go_enter Tryz.func14, Tryz.ntmps14
 go_upto_region 1 with fail
 refine wp_region_held_drew (S := (fun w' => w'.cell? ⟨w.heap.size, 0, none⟩ = some (.int .i64 b.years) ∧ w'.cell? ⟨w.heap.size, 1, none⟩ = some (.slice ra b.rivers.length rc) ∧ w'.cell? ⟨w.heap.size + 1, 0, none⟩ = some (.slice sa s.shells.length sc) ∧ w'.cell? ⟨w.heap.size + 1, 1, none⟩ = some (.slice ta s.tests.length tc))) (by kernel_rfl) ?_ (fun hHeld => ?_)
 ·exact HS.out _ (by repeat (first | exact hxe | exact Ext.refl _ | apply Ext.drew | apply Ext.alloc | refine Ext.setCell ?_ (by first | exact hzl | (simp; done) | (have := hzl; simp at this ⊢; omega)) _))
 refine hTk (i := 0) (d := some 11) (v := ?_) (fun o ho => ?_) hHeld ?_
 rotate_left
 ·simp only [zA, zB, zD] at ho
  subst ho
  refine ⟨by rfl, fun w hSw => ?_⟩
  (try dsimp only at hSw)
  go_simp
  try with_reducible rfl
 try simp only [Act.put, yA, yB, yC]
 refine hTk (i := 1) (d := some 12) (v := ?_) (fun o ho => ?_) hHeld ?_
 rotate_left
 ·simp only [zA, zB, zC, zD] at ho
  subst ho
  refine ⟨by rfl, fun w hSw => ?_⟩
  (try dsimp only at hSw)
  go_simp
  try with_reducible rfl
 try simp only [Act.put, yA, yB, yC]
 refine hTk (i := 2) (d := some 13) (v := ?_) (fun o ho => ?_) hHeld ?_
 rotate_left
 ·simp only [zA, zB, zC, zD] at ho
  subst ho
  refine ⟨by rfl, fun w hSw => ?_⟩
  (try dsimp only at hSw)
  go_simp
  try with_reducible rfl
 try simp only [Act.put, yA, yB, yC]
 refine hTk (i := 3) (d := some 14) (v := ?_) (fun o ho => ?_) hHeld ?_
 rotate_left
 ·simp only [zA, zB, zC, zD] at ho
  subst ho
  refine ⟨by rfl, fun w hSw => ?_⟩
  (try dsimp only at hSw)
  go_simp
  try with_reducible rfl
 try simp only [Act.put, yA, yB, yC]
 refine hTk (i := 4) (d := some 15) (v := ?_) (fun o ho => ?_) hHeld ?_
 rotate_left
 ·simp only [zA, zB, zC, zD] at ho
  subst ho
  refine ⟨by rfl, fun w hSw => ?_⟩
  (try dsimp only at hSw)
  go_simp
  try with_reducible rfl
 try simp only [Act.put, yA, yB, yC]
 refine hTk (i := 5) (d := some 16) (v := ?_) (fun o ho => ?_) hHeld ?_
 rotate_left
 ·simp only [zA, zB, zC, zD] at ho
  subst ho
  refine ⟨by rfl, fun w hSw => ?_⟩
  (try dsimp only at hSw)
  go_simp
  try with_reducible rfl
 try simp only [Act.put, yA, yB, yC]
 refine hTk (i := 6) (d := some 17) (v := ?_) (fun o ho => ?_) hHeld ?_
 rotate_left
 ·simp only [zA, zB, zC, zD] at ho
  subst ho
  refine ⟨by rfl, fun w hSw => ?_⟩
  (try dsimp only at hSw)
  go_simp
  try with_reducible rfl
 try simp only [Act.put, yA, yB, yC]
 refine wpAnyH_ready (rs := [7, 12]) (by kernel_rfl) (by simp) ?_
 refine held_step (i := 7) (by kernel_rfl) (fun o ho K' hK => ?_) ?_
 ·simp only [zA, zB, zC, zD] at ho
  subst ho
  go_simp
  go_at_call 36
  refine (in_any _ _ _ _).mono ?_
  rintro e w1 ⟨rfl, rfl⟩
  try go_simp
  refine hK.out _ _ ?_ (fun hHeld => ?_)
  ·exact HS.out _ (by repeat (first | exact hxe | exact Ext.refl _ | apply Ext.drew | apply Ext.alloc | refine Ext.setCell ?_ (by first | exact hzl | (simp; done) | (have := hzl; simp at this ⊢; omega)) _))
  clear hK K'
  try simp only [yA, yB, yC]
  refine wpAnyH_ready (rs := [8, 12]) (by kernel_rfl) (by simp) ?_
  refine held_step (i := 8) (by kernel_rfl) (fun o ho K' hK => ?_) ?_
  ·simp only [zA, zB, zC, zD] at ho
   subst ho
   go_simp
   go_at_call 35
   refine (HA.out _ (by repeat (first | exact HX0.out | apply Ext.drew | apply Ext.alloc))).mono ?_
   rintro e w2 ⟨rfl, hx2⟩
   have hxe : Ext ((w.alloc (.cells #[.int .i64 b.years, .slice ra b.rivers.length rc] 24)).alloc (.cells #[.slice sa s.shells.length sc, .slice ta s.tests.length tc] 28)) w2 := (by repeat (first | exact Ext.refl _ | apply Ext.drew | apply Ext.alloc) : Ext ((w.alloc (.cells #[.int .i64 b.years, .slice ra b.rivers.length rc] 24)).alloc (.cells #[.slice sa s.shells.length sc, .slice ta s.tests.length tc] 28)) (World.drew ((w.alloc (.cells #[.int .i64 b.years, .slice ra b.rivers.length rc] 24)).alloc (.cells #[.slice sa s.shells.length sc, .slice ta s.tests.length tc] 28)))).trans hx2
   have hzl := hxe.size
   try go_simp
   refine hK.out _ _ ?_ (fun hHeld => ?_)
   ·exact HS.out _ (by repeat (first | exact hxe | exact Ext.refl _ | apply Ext.drew | apply Ext.alloc | refine Ext.setCell ?_ (by first | exact hzl | (simp; done) | (have := hzl; simp at this ⊢; omega)) _))
   clear hK K'
   try simp only [yA, yB, yC]
   refine hTk (i := 9) (d := some 10) (v := ?_) (fun o ho => ?_) hHeld ?_
   rotate_left
   ·simp only [zA, zB, zC, zD] at ho
    subst ho
    refine ⟨by rfl, fun w hSw => ?_⟩
    (try dsimp only at hSw)
    go_simp
    try with_reducible rfl
   try simp only [Act.put, yA, yB, yC]
   refine hTk (i := 10) (d := some 20) (v := ?_) (fun o ho => ?_) hHeld ?_
   rotate_left
   ·simp only [zA, zB, zC, zD] at ho
    subst ho
    refine ⟨by rfl, fun w hSw => ?_⟩
    (try dsimp only at hSw)
    go_simp
    try with_reducible rfl
   try simp only [Act.put, yA, yB, yC]
   refine hTk (i := 11) (d := some 21) (v := ?_) (fun o ho => ?_) hHeld ?_
   rotate_left
   ·simp only [zA, zB, zC, zD] at ho
    subst ho
    refine ⟨by rfl, fun w hSw => ?_⟩
    (try dsimp only at hSw)
    go_simp
    try with_reducible rfl
   try simp only [Act.put, yA, yB, yC]
   refine wpAnyH_ready (rs := [12]) (by kernel_rfl) (by simp) ?_
   refine held_step (i := 12) (by kernel_rfl) (fun o ho K' hK => ?_) ?_
   ·simp only [zA, zB, zC, zD] at ho
    subst ho
    go_simp
    refine hK.out _ _ ?_ (fun hHeld => ?_)
    ·exact HS.out _ (by repeat (first | exact hxe | exact Ext.refl _ | apply Ext.drew | apply Ext.alloc | refine Ext.setCell ?_ (by first | exact hzl | (simp; done) | (have := hzl; simp at this ⊢; omega)) _))
    clear hK K'
    try simp only [yA, yB, yC]
    refine wpAnyH_ready (rs := [13]) (by kernel_rfl) (by simp) ?_
    refine held_step (i := 13) (by kernel_rfl) (fun o ho K' hK => ?_) ?_
    ·simp only [zA, zB, zC, zD] at ho
     subst ho
     go_simp
     refine hK.out _ _ ?_ (fun hHeld => ?_)
     ·exact HS.out _ (by repeat (first | exact hxe | exact Ext.refl _ | apply Ext.drew | apply Ext.alloc | refine Ext.setCell ?_ (by first | exact hzl | (simp; done) | (have := hzl; simp at this ⊢; omega)) _))
     clear hK K'
     try simp only [yA, yB, yC]
     refine wpAnyH_ready (rs := [14]) (by kernel_rfl) (by simp) ?_
     refine held_step (i := 14) (by kernel_rfl) (fun o ho K' hK => ?_) ?_
     ·simp only [zA, zB, zC, zD] at ho
      subst ho
      go_simp
      refine hK.out _ _ ?_ (fun hHeld => ?_)
      ·exact HS.out _ (by repeat (first | exact hxe | exact Ext.refl _ | apply Ext.drew | apply Ext.alloc | refine Ext.setCell ?_ (by first | exact hzl | (simp; done) | (have := hzl; simp at this ⊢; omega)) _))
      clear hK K'
      try simp only [yA, yB, yC]
      refine wpAnyH_done (by kernel_rfl) ?_ _
      try simp only [yA, yB, yC]
      go_wp2
      go_ret2
      exact HRES.out _ (by repeat (first | exact HX0.out.trans hxe | apply Ext.drew | apply Ext.alloc | refine Ext.setCell ?_ (by first | (simp only []; omega) | (have := HX0.out.size; omega) | (have := (HX0.out.trans hxe).size; omega)) _))
     exact AllReadyH.nil
    exact AllReadyH.nil
   exact AllReadyH.nil
  refine held_step (i := 12) (by kernel_rfl) (fun o ho K' hK => ?_) ?_
  ·simp only [zA, zB, zC, zD] at ho
   subst ho
   go_simp
   refine hK.out _ _ ?_ (fun hHeld => ?_)
   ·exact HS.out _ (by repeat (first | exact hxe | exact Ext.refl _ | apply Ext.drew | apply Ext.alloc | refine Ext.setCell ?_ (by first | exact hzl | (simp; done) | (have := hzl; simp at this ⊢; omega)) _))
   clear hK K'
   try simp only [yA, yB, yC]
   refine wpAnyH_ready (rs := [8]) (by kernel_rfl) (by simp) ?_
   refine held_step (i := 8) (by kernel_rfl) (fun o ho K' hK => ?_) ?_
   ·simp only [zA, zB, zC, zD] at ho
    subst ho
    go_simp
    go_at_call 35
    refine (HA.out _ (by repeat (first | exact HX0.out | apply Ext.drew | apply Ext.alloc))).mono ?_
    rintro e w2 ⟨rfl, hx2⟩
    have hxe : Ext ((w.alloc (.cells #[.int .i64 b.years, .slice ra b.rivers.length rc] 24)).alloc (.cells #[.slice sa s.shells.length sc, .slice ta s.tests.length tc] 28)) w2 := (by repeat (first | exact Ext.refl _ | apply Ext.drew | apply Ext.alloc) : Ext ((w.alloc (.cells #[.int .i64 b.years, .slice ra b.rivers.length rc] 24)).alloc (.cells #[.slice sa s.shells.length sc, .slice ta s.tests.length tc] 28)) ((World.drew ((w.alloc (.cells #[.int .i64 b.years, .slice ra b.rivers.length rc] 24)).alloc (.cells #[.slice sa s.shells.length sc, .slice ta s.tests.length tc] 28))).alloc (.cells #[.int .i64 0, .slice none 0 0, .slice none 0 0, .slice none 0 0] 89))).trans hx2
    have hzl := hxe.size
    have c0 := hx2.cell (a := ⟨w.heap.size + 2, 0, none⟩) (v := .int .i64 0) (by go_simp)
    have f0 : w2.frozen? ⟨w.heap.size + 2, 0, none⟩ = false := (hx2.frozen (a := ⟨w.heap.size + 2, 0, none⟩) (by simp)).trans (by go_simp)
    have c1 := hx2.cell (a := ⟨w.heap.size + 2, 1, none⟩) (v := .slice none 0 0) (by go_simp)
    have f1 : w2.frozen? ⟨w.heap.size + 2, 1, none⟩ = false := (hx2.frozen (a := ⟨w.heap.size + 2, 1, none⟩) (by simp)).trans (by go_simp)
    have c2 := hx2.cell (a := ⟨w.heap.size + 2, 2, none⟩) (v := .slice none 0 0) (by go_simp)
    have f2 : w2.frozen? ⟨w.heap.size + 2, 2, none⟩ = false := (hx2.frozen (a := ⟨w.heap.size + 2, 2, none⟩) (by simp)).trans (by go_simp)
    have c3 := hx2.cell (a := ⟨w.heap.size + 2, 3, none⟩) (v := .slice none 0 0) (by go_simp)
    have f3 : w2.frozen? ⟨w.heap.size + 2, 3, none⟩ = false := (hx2.frozen (a := ⟨w.heap.size + 2, 3, none⟩) (by simp)).trans (by go_simp)
    try go_simp
    refine hK.out _ _ ?_ (fun hHeld => ?_)
    ·exact HS.out _ (by repeat (first | exact hxe | exact Ext.refl _ | apply Ext.drew | apply Ext.alloc | refine Ext.setCell ?_ (by first | exact hzl | (simp; done) | (have := hzl; simp at this ⊢; omega)) _))
    clear hK K'
    try simp only [yA, yB, yC]
    refine hTk (i := 9) (d := some 10) (v := ?_) (fun o ho => ?_) hHeld ?_
    rotate_left
    ·simp only [zA, zB, zC, zD] at ho
     subst ho
     refine ⟨by rfl, fun w hSw => ?_⟩
     (try dsimp only at hSw)
     go_simp
     try with_reducible rfl
    try simp only [Act.put, yA, yB, yC]
    refine hTk (i := 10) (d := some 20) (v := ?_) (fun o ho => ?_) hHeld ?_
    rotate_left
    ·simp only [zA, zB, zC, zD] at ho
     subst ho
     refine ⟨by rfl, fun w hSw => ?_⟩
     (try dsimp only at hSw)
     go_simp
     try with_reducible rfl
    try simp only [Act.put, yA, yB, yC]
    refine hTk (i := 11) (d := some 21) (v := ?_) (fun o ho => ?_) hHeld ?_
    rotate_left
    ·simp only [zA, zB, zC, zD] at ho
     subst ho
     refine ⟨by rfl, fun w hSw => ?_⟩
     (try dsimp only at hSw)
     go_simp
     try with_reducible rfl
    try simp only [Act.put, yA, yB, yC]
    refine wpAnyH_ready (rs := [13]) (by kernel_rfl) (by simp) ?_
    refine held_step (i := 13) (by kernel_rfl) (fun o ho K' hK => ?_) ?_
    ·simp only [zA, zB, zC, zD] at ho
     subst ho
     go_simp
     refine hK.out _ _ ?_ (fun hHeld => ?_)
     ·exact HS.out _ (by repeat (first | exact hxe | exact Ext.refl _ | apply Ext.drew | apply Ext.alloc | refine Ext.setCell ?_ (by first | exact hzl | (simp; done) | (have := hzl; simp at this ⊢; omega)) _))
     clear hK K'
     try simp only [yA, yB, yC]
     refine wpAnyH_ready (rs := [14]) (by kernel_rfl) (by simp) ?_
     refine held_step (i := 14) (by kernel_rfl) (fun o ho K' hK => ?_) ?_
     ·simp only [zA, zB, zC, zD] at ho
      subst ho
      go_simp
      refine hK.out _ _ ?_ (fun hHeld => ?_)
      ·exact HS.out _ (by repeat (first | exact hxe | exact Ext.refl _ | apply Ext.drew | apply Ext.alloc | refine Ext.setCell ?_ (by first | exact hzl | (simp; done) | (have := hzl; simp at this ⊢; omega)) _))
      clear hK K'
      try simp only [yA, yB, yC]
      refine wpAnyH_done (by kernel_rfl) ?_ _
      try simp only [yA, yB, yC]
      go_wp2
      go_ret2
      exact HRES.out _ (by repeat (first | exact HX0.out.trans hxe | apply Ext.drew | apply Ext.alloc | refine Ext.setCell ?_ (by first | (simp only []; omega) | (have := HX0.out.size; omega) | (have := (HX0.out.trans hxe).size; omega)) _))
     exact AllReadyH.nil
    exact AllReadyH.nil
   exact AllReadyH.nil
  exact AllReadyH.nil
 refine held_step (i := 12) (by kernel_rfl) (fun o ho K' hK => ?_) ?_
 ·simp only [zA, zB, zC, zD] at ho
  subst ho
  go_simp
  refine hK.out _ _ ?_ (fun hHeld => ?_)
  ·exact HS.out _ (by repeat (first | exact hxe | exact Ext.refl _ | apply Ext.drew | apply Ext.alloc | refine Ext.setCell ?_ (by first | exact hzl | (simp; done) | (have := hzl; simp at this ⊢; omega)) _))
  clear hK K'
  try simp only [yA, yB, yC]
  refine wpAnyH_ready (rs := [7]) (by kernel_rfl) (by simp) ?_
  refine held_step (i := 7) (by kernel_rfl) (fun o ho K' hK => ?_) ?_
  ·simp only [zA, zB, zC, zD] at ho
   subst ho
   go_simp
   go_at_call 36
   refine (in_any _ _ _ _).mono ?_
   rintro e w1 ⟨rfl, rfl⟩
   try go_simp
   refine hK.out _ _ ?_ (fun hHeld => ?_)
   ·exact HS.out _ (by repeat (first | exact hxe | exact Ext.refl _ | apply Ext.drew | apply Ext.alloc | refine Ext.setCell ?_ (by first | exact hzl | (simp; done) | (have := hzl; simp at this ⊢; omega)) _))
   clear hK K'
   try simp only [yA, yB, yC]
   refine wpAnyH_ready (rs := [8]) (by kernel_rfl) (by simp) ?_
   refine held_step (i := 8) (by kernel_rfl) (fun o ho K' hK => ?_) ?_
   ·simp only [zA, zB, zC, zD] at ho
    subst ho
    go_simp
    go_at_call 35
    refine (HA.out _ (by repeat (first | exact HX0.out | apply Ext.drew | apply Ext.alloc))).mono ?_
    rintro e w2 ⟨rfl, hx2⟩
    have hxe : Ext ((w.alloc (.cells #[.int .i64 b.years, .slice ra b.rivers.length rc] 24)).alloc (.cells #[.slice sa s.shells.length sc, .slice ta s.tests.length tc] 28)) w2 := (by repeat (first | exact Ext.refl _ | apply Ext.drew | apply Ext.alloc) : Ext ((w.alloc (.cells #[.int .i64 b.years, .slice ra b.rivers.length rc] 24)).alloc (.cells #[.slice sa s.shells.length sc, .slice ta s.tests.length tc] 28)) ((World.drew ((w.alloc (.cells #[.int .i64 b.years, .slice ra b.rivers.length rc] 24)).alloc (.cells #[.slice sa s.shells.length sc, .slice ta s.tests.length tc] 28))).alloc (.cells #[.int .i64 0, .slice none 0 0, .slice none 0 0, .slice none 0 0] 89))).trans hx2
    have hzl := hxe.size
    have c0 := hx2.cell (a := ⟨w.heap.size + 2, 0, none⟩) (v := .int .i64 0) (by go_simp)
    have f0 : w2.frozen? ⟨w.heap.size + 2, 0, none⟩ = false := (hx2.frozen (a := ⟨w.heap.size + 2, 0, none⟩) (by simp)).trans (by go_simp)
    have c1 := hx2.cell (a := ⟨w.heap.size + 2, 1, none⟩) (v := .slice none 0 0) (by go_simp)
    have f1 : w2.frozen? ⟨w.heap.size + 2, 1, none⟩ = false := (hx2.frozen (a := ⟨w.heap.size + 2, 1, none⟩) (by simp)).trans (by go_simp)
    have c2 := hx2.cell (a := ⟨w.heap.size + 2, 2, none⟩) (v := .slice none 0 0) (by go_simp)
    have f2 : w2.frozen? ⟨w.heap.size + 2, 2, none⟩ = false := (hx2.frozen (a := ⟨w.heap.size + 2, 2, none⟩) (by simp)).trans (by go_simp)
    have c3 := hx2.cell (a := ⟨w.heap.size + 2, 3, none⟩) (v := .slice none 0 0) (by go_simp)
    have f3 : w2.frozen? ⟨w.heap.size + 2, 3, none⟩ = false := (hx2.frozen (a := ⟨w.heap.size + 2, 3, none⟩) (by simp)).trans (by go_simp)
    try go_simp
    refine hK.out _ _ ?_ (fun hHeld => ?_)
    ·exact HS.out _ (by repeat (first | exact hxe | exact Ext.refl _ | apply Ext.drew | apply Ext.alloc | refine Ext.setCell ?_ (by first | exact hzl | (simp; done) | (have := hzl; simp at this ⊢; omega)) _))
    clear hK K'
    try simp only [yA, yB, yC]
    refine hTk (i := 9) (d := some 10) (v := ?_) (fun o ho => ?_) hHeld ?_
    rotate_left
    ·simp only [zA, zB, zC, zD] at ho
     subst ho
     refine ⟨by rfl, fun w hSw => ?_⟩
     (try dsimp only at hSw)
     go_simp
     try with_reducible rfl
    try simp only [Act.put, yA, yB, yC]
    refine hTk (i := 10) (d := some 20) (v := ?_) (fun o ho => ?_) hHeld ?_
    rotate_left
    ·simp only [zA, zB, zC, zD] at ho
     subst ho
     refine ⟨by rfl, fun w hSw => ?_⟩
     (try dsimp only at hSw)
     go_simp
     try with_reducible rfl
    try simp only [Act.put, yA, yB, yC]
    refine hTk (i := 11) (d := some 21) (v := ?_) (fun o ho => ?_) hHeld ?_
    rotate_left
    ·simp only [zA, zB, zC, zD] at ho
     subst ho
     refine ⟨by rfl, fun w hSw => ?_⟩
     (try dsimp only at hSw)
     go_simp
     try with_reducible rfl
    try simp only [Act.put, yA, yB, yC]
    refine wpAnyH_ready (rs := [13]) (by kernel_rfl) (by simp) ?_
    refine held_step (i := 13) (by kernel_rfl) (fun o ho K' hK => ?_) ?_
    ·simp only [zA, zB, zC, zD] at ho
     subst ho
     go_simp
     refine hK.out _ _ ?_ (fun hHeld => ?_)
     ·exact HS.out _ (by repeat (first | exact hxe | exact Ext.refl _ | apply Ext.drew | apply Ext.alloc | refine Ext.setCell ?_ (by first | exact hzl | (simp; done) | (have := hzl; simp at this ⊢; omega)) _))
     clear hK K'
     try simp only [yA, yB, yC]
     refine wpAnyH_ready (rs := [14]) (by kernel_rfl) (by simp) ?_
     refine held_step (i := 14) (by kernel_rfl) (fun o ho K' hK => ?_) ?_
     ·simp only [zA, zB, zC, zD] at ho
      subst ho
      go_simp
      refine hK.out _ _ ?_ (fun hHeld => ?_)
      ·exact HS.out _ (by repeat (first | exact hxe | exact Ext.refl _ | apply Ext.drew | apply Ext.alloc | refine Ext.setCell ?_ (by first | exact hzl | (simp; done) | (have := hzl; simp at this ⊢; omega)) _))
      clear hK K'
      try simp only [yA, yB, yC]
      refine wpAnyH_done (by kernel_rfl) ?_ _
      try simp only [yA, yB, yC]
      go_wp2
      go_ret2
      exact HRES.out _ (by repeat (first | exact HX0.out.trans hxe | apply Ext.drew | apply Ext.alloc | refine Ext.setCell ?_ (by first | (simp only []; omega) | (have := HX0.out.size; omega) | (have := (HX0.out.trans hxe).size; omega)) _))
     exact AllReadyH.nil
    exact AllReadyH.nil
   exact AllReadyH.nil
  exact AllReadyH.nil
 exact AllReadyH.nil
set_option maxRecDepth 100000 in
set_option maxHeartbeats 8000000 in
theorem Origins_yes (bv sv : Value) (b : Book) (s : Sack) (i : Int) (w : World) (hb : BookAt w bv b) (hs : SackAt w sv s) (hn : askN b s (inB i 0 (s.shells.length - 1)) = 0) : Calls Tryz.prog 14 #[bv, sv, .int .i64 i] w (OriginsRes b s i w) := by
 obtain ⟨rv, rfl, hr⟩ := hb
 obtain ⟨sv, tv, rfl, hs, ht⟩ := hs
 have HA := Lib.hid (fun (w1 : World) (hx : Ext w w1) => asked_any rv sv tv b s (inB i 0 (s.shells.length - 1)) w1 (hr.ext hx) (hs.ext hx) (RowOf.ext ht hx))
 obtain ⟨hB, hS, hfi, _⟩ := asked_cases hn
 have hi := inB_iff.1 hfi
 obtain ⟨k, rfl⟩ : ∃ k : Nat, i = k := ⟨i.toNat, by omega⟩
 have HC := Lib.hid (fun (w1 : World) (hx : Ext w w1) => could_any b s rv sv tv k w1 (bookB_of hB) (sackB_of hS) (hr.ext hx) (hs.ext hx) (RowOf.ext ht hx) (by omega))
 unfold sackV at HC
 have hres : ∀ v w', Ext w w' → PairsAt w' v (couldOf b s k) → OriginsRes b s k w (.returned (.tuple #[v, .int .i64 0])) w' := fun v w' hx hp => ⟨v, by rw [hn], hx, by rw [if_pos hn]; simpa using hp⟩
 unfold AskRes sackV at HA
 rw [if_pos hn, hn] at HA
 clear hfi hi hB hS
 obtain ⟨ra, rc, rfl, _⟩ := hr.open
 obtain ⟨sa, sc, rfl, hsl, hsm, _⟩ := hs.open
 obtain ⟨ta, tc, rfl, _⟩ := RowAt.open ht
 have HRES := Lib.hid hres
 have hmix : Tryz.prog.follows .mixedOrders = true := by kernel_rfl
 have hx0 : Ext w ((w.alloc (.cells #[.int .i64 b.years, .slice ra b.rivers.length rc] 24)).alloc (.cells #[.slice sa s.shells.length sc, .slice ta s.tests.length tc] 28)) := ((Ext.refl w).alloc _).alloc _
 have HX0 := Lib.hid hx0
 have HS := Lib.hid (fun W (h : Ext ((w.alloc (.cells #[.int .i64 b.years, .slice ra b.rivers.length rc] 24)).alloc (.cells #[.slice sa s.shells.length sc, .slice ta s.tests.length tc] 28)) W) => (⟨h.cell (by go_simp), h.cell (by go_simp), h.cell (by go_simp), h.cell (by go_simp)⟩ : (fun w' => w'.cell? ⟨w.heap.size, 0, none⟩ = some (.int .i64 b.years) ∧ w'.cell? ⟨w.heap.size, 1, none⟩ = some (.slice ra b.rivers.length rc) ∧ w'.cell? ⟨w.heap.size + 1, 0, none⟩ = some (.slice sa s.shells.length sc) ∧ w'.cell? ⟨w.heap.size + 1, 1, none⟩ = some (.slice ta s.tests.length tc)) W))
 have E1 : IntKind.i64.wrap ((s.shells.length : Int) - 1) = (s.shells.length : Int) - 1 := IntWalk.i64_in _ (by omega)
 clear hr hs ht hx0 hres
 go_enter Tryz.func14, Tryz.ntmps14
 go_upto_region 1 with fail
 refine wp_region_held_drew (S := (fun w' => w'.cell? ⟨w.heap.size, 0, none⟩ = some (.int .i64 b.years) ∧ w'.cell? ⟨w.heap.size, 1, none⟩ = some (.slice ra b.rivers.length rc) ∧ w'.cell? ⟨w.heap.size + 1, 0, none⟩ = some (.slice sa s.shells.length sc) ∧ w'.cell? ⟨w.heap.size + 1, 1, none⟩ = some (.slice ta s.tests.length tc))) (by kernel_rfl) ?_ (fun hHeld => ?_)
 ·exact HS.out _ (by repeat (first | exact hxe | exact Ext.refl _ | apply Ext.drew | apply Ext.alloc | refine Ext.setCell ?_ (by first | exact hzl | (simp; done) | (have := hzl; simp at this ⊢; omega)) _))
 refine hTk (i := 0) (d := some 11) (v := ?_) (fun o ho => ?_) hHeld ?_
 rotate_left
 ·simp only [zA, zB, zD] at ho
  subst ho
  refine ⟨by rfl, fun w hSw => ?_⟩
  (try dsimp only at hSw)
  go_simp
  try with_reducible rfl
 try simp only [Act.put, yA, yB, yC]
 refine hTk (i := 1) (d := some 12) (v := ?_) (fun o ho => ?_) hHeld ?_
 rotate_left
 ·simp only [zA, zB, zC, zD] at ho
  subst ho
  refine ⟨by rfl, fun w hSw => ?_⟩
  (try dsimp only at hSw)
  go_simp
  try with_reducible rfl
 try simp only [Act.put, yA, yB, yC]
 refine hTk (i := 2) (d := some 13) (v := ?_) (fun o ho => ?_) hHeld ?_
 rotate_left
 ·simp only [zA, zB, zC, zD] at ho
  subst ho
  refine ⟨by rfl, fun w hSw => ?_⟩
  (try dsimp only at hSw)
  go_simp
  try with_reducible rfl
 try simp only [Act.put, yA, yB, yC]
 refine hTk (i := 3) (d := some 14) (v := ?_) (fun o ho => ?_) hHeld ?_
 rotate_left
 ·simp only [zA, zB, zC, zD] at ho
  subst ho
  refine ⟨by rfl, fun w hSw => ?_⟩
  (try dsimp only at hSw)
  go_simp
  try with_reducible rfl
 try simp only [Act.put, yA, yB, yC]
 refine hTk (i := 4) (d := some 15) (v := ?_) (fun o ho => ?_) hHeld ?_
 rotate_left
 ·simp only [zA, zB, zC, zD] at ho
  subst ho
  refine ⟨by rfl, fun w hSw => ?_⟩
  (try dsimp only at hSw)
  go_simp
  try with_reducible rfl
 try simp only [Act.put, yA, yB, yC]
 refine hTk (i := 5) (d := some 16) (v := ?_) (fun o ho => ?_) hHeld ?_
 rotate_left
 ·simp only [zA, zB, zC, zD] at ho
  subst ho
  refine ⟨by rfl, fun w hSw => ?_⟩
  (try dsimp only at hSw)
  go_simp
  try with_reducible rfl
 try simp only [Act.put, yA, yB, yC]
 refine hTk (i := 6) (d := some 17) (v := ?_) (fun o ho => ?_) hHeld ?_
 rotate_left
 ·simp only [zA, zB, zC, zD] at ho
  subst ho
  refine ⟨by rfl, fun w hSw => ?_⟩
  (try dsimp only at hSw)
  go_simp
  try with_reducible rfl
 try simp only [Act.put, yA, yB, yC]
 refine wpAnyH_ready (rs := [7, 12]) (by kernel_rfl) (by simp) ?_
 refine held_step (i := 7) (by kernel_rfl) (fun o ho K' hK => ?_) ?_
 ·simp only [zA, zB, zC, zD] at ho
  subst ho
  go_simp
  go_at_call 36
  refine (in_any _ _ _ _).mono ?_
  rintro e w1 ⟨rfl, rfl⟩
  try go_simp
  refine hK.out _ _ ?_ (fun hHeld => ?_)
  ·exact HS.out _ (by repeat (first | exact hxe | exact Ext.refl _ | apply Ext.drew | apply Ext.alloc | refine Ext.setCell ?_ (by first | exact hzl | (simp; done) | (have := hzl; simp at this ⊢; omega)) _))
  clear hK K'
  try simp only [yA, yB, yC]
  refine wpAnyH_ready (rs := [8, 12]) (by kernel_rfl) (by simp) ?_
  refine held_step (i := 8) (by kernel_rfl) (fun o ho K' hK => ?_) ?_
  ·simp only [zA, zB, zC, zD] at ho
   subst ho
   go_simp
   go_at_call 35
   refine (HA.out _ (by repeat (first | exact HX0.out | apply Ext.drew | apply Ext.alloc))).mono ?_
   rintro e w2 ⟨rfl, hx2⟩
   have hxe : Ext ((w.alloc (.cells #[.int .i64 b.years, .slice ra b.rivers.length rc] 24)).alloc (.cells #[.slice sa s.shells.length sc, .slice ta s.tests.length tc] 28)) w2 := (by repeat (first | exact Ext.refl _ | apply Ext.drew | apply Ext.alloc) : Ext ((w.alloc (.cells #[.int .i64 b.years, .slice ra b.rivers.length rc] 24)).alloc (.cells #[.slice sa s.shells.length sc, .slice ta s.tests.length tc] 28)) (World.drew ((w.alloc (.cells #[.int .i64 b.years, .slice ra b.rivers.length rc] 24)).alloc (.cells #[.slice sa s.shells.length sc, .slice ta s.tests.length tc] 28)))).trans hx2
   have hzl := hxe.size
   try go_simp
   refine hK.out _ _ ?_ (fun hHeld => ?_)
   ·exact HS.out _ (by repeat (first | exact hxe | exact Ext.refl _ | apply Ext.drew | apply Ext.alloc | refine Ext.setCell ?_ (by first | exact hzl | (simp; done) | (have := hzl; simp at this ⊢; omega)) _))
   clear hK K'
   try simp only [yA, yB, yC]
   refine hTk (i := 9) (d := some 10) (v := ?_) (fun o ho => ?_) hHeld ?_
   rotate_left
   ·simp only [zA, zB, zC, zD] at ho
    subst ho
    refine ⟨by rfl, fun w hSw => ?_⟩
    (try dsimp only at hSw)
    go_simp
    try with_reducible rfl
   try simp only [Act.put, yA, yB, yC]
   refine hTk (i := 10) (d := some 20) (v := ?_) (fun o ho => ?_) hHeld ?_
   rotate_left
   ·simp only [zA, zB, zC, zD] at ho
    subst ho
    refine ⟨by rfl, fun w hSw => ?_⟩
    (try dsimp only at hSw)
    go_simp
    try with_reducible rfl
   try simp only [Act.put, yA, yB, yC]
   refine hTk (i := 11) (d := some 21) (v := ?_) (fun o ho => ?_) hHeld ?_
   rotate_left
   ·simp only [zA, zB, zC, zD] at ho
    subst ho
    refine ⟨by rfl, fun w hSw => ?_⟩
    (try dsimp only at hSw)
    go_simp
    try with_reducible rfl
   try simp only [Act.put, yA, yB, yC]
   refine wpAnyH_ready (rs := [12]) (by kernel_rfl) (by simp) ?_
   refine held_step (i := 12) (by kernel_rfl) (fun o ho K' hK => ?_) ?_
   ·simp only [zA, zB, zC, zD] at ho
    subst ho
    go_simp
    refine hK.out _ _ ?_ (fun hHeld => ?_)
    ·exact HS.out _ (by repeat (first | exact hxe | exact Ext.refl _ | apply Ext.drew | apply Ext.alloc | refine Ext.setCell ?_ (by first | exact hzl | (simp; done) | (have := hzl; simp at this ⊢; omega)) _))
    clear hK K'
    try simp only [yA, yB, yC]
    refine wpAnyH_ready (rs := [13]) (by kernel_rfl) (by simp) ?_
    refine held_step (i := 13) (by kernel_rfl) (fun o ho K' hK => ?_) ?_
    ·simp only [zA, zB, zC, zD] at ho
     subst ho
     go_simp
     refine hK.out _ _ ?_ (fun hHeld => ?_)
     ·exact HS.out _ (by repeat (first | exact hxe | exact Ext.refl _ | apply Ext.drew | apply Ext.alloc | refine Ext.setCell ?_ (by first | exact hzl | (simp; done) | (have := hzl; simp at this ⊢; omega)) _))
     clear hK K'
     try simp only [yA, yB, yC]
     refine wpAnyH_ready (rs := [14]) (by kernel_rfl) (by simp) ?_
     refine held_step (i := 14) (by kernel_rfl) (fun o ho K' hK => ?_) ?_
     ·simp only [zA, zB, zC, zD] at ho
      subst ho
      go_simp
      refine hK.out _ _ ?_ (fun hHeld => ?_)
      ·exact HS.out _ (by repeat (first | exact hxe | exact Ext.refl _ | apply Ext.drew | apply Ext.alloc | refine Ext.setCell ?_ (by first | exact hzl | (simp; done) | (have := hzl; simp at this ⊢; omega)) _))
      clear hK K'
      try simp only [yA, yB, yC]
      refine wpAnyH_done (by kernel_rfl) ?_ _
      try simp only [yA, yB, yC]
      go_wp2_with (go_at_call 49; refine (HC.out _ (by repeat (first | exact HX0.out.trans hxe | apply Ext.drew | apply Ext.alloc | refine Ext.setCell ?_ (by first | (simp only []; omega) | (have := HX0.out.size; omega) | (have := (HX0.out.trans hxe).size; omega)) _))).mono ?_; rintro e w4 ⟨v, rfl, hx4, hp⟩; have hx44 : Ext w w4 := Ext.trans (by repeat (first | exact HX0.out.trans hxe | apply Ext.drew | apply Ext.alloc | refine Ext.setCell ?_ (by first | (simp only []; omega) | (have := HX0.out.size; omega) | (have := (HX0.out.trans hxe).size; omega)) _)) hx4; have HP := Lib.hid hp; clear hp hx4)
      go_ret2
      exact HRES.out _ _ hx44 HP.out
     exact AllReadyH.nil
    exact AllReadyH.nil
   exact AllReadyH.nil
  refine held_step (i := 12) (by kernel_rfl) (fun o ho K' hK => ?_) ?_
  ·simp only [zA, zB, zC, zD] at ho
   subst ho
   go_simp
   refine hK.out _ _ ?_ (fun hHeld => ?_)
   ·exact HS.out _ (by repeat (first | exact hxe | exact Ext.refl _ | apply Ext.drew | apply Ext.alloc | refine Ext.setCell ?_ (by first | exact hzl | (simp; done) | (have := hzl; simp at this ⊢; omega)) _))
   clear hK K'
   try simp only [yA, yB, yC]
   refine wpAnyH_ready (rs := [8]) (by kernel_rfl) (by simp) ?_
   refine held_step (i := 8) (by kernel_rfl) (fun o ho K' hK => ?_) ?_
   ·simp only [zA, zB, zC, zD] at ho
    subst ho
    go_simp
    go_at_call 35
    refine (HA.out _ (by repeat (first | exact HX0.out | apply Ext.drew | apply Ext.alloc))).mono ?_
    rintro e w2 ⟨rfl, hx2⟩
    have hxe : Ext ((w.alloc (.cells #[.int .i64 b.years, .slice ra b.rivers.length rc] 24)).alloc (.cells #[.slice sa s.shells.length sc, .slice ta s.tests.length tc] 28)) w2 := (by repeat (first | exact Ext.refl _ | apply Ext.drew | apply Ext.alloc) : Ext ((w.alloc (.cells #[.int .i64 b.years, .slice ra b.rivers.length rc] 24)).alloc (.cells #[.slice sa s.shells.length sc, .slice ta s.tests.length tc] 28)) ((World.drew ((w.alloc (.cells #[.int .i64 b.years, .slice ra b.rivers.length rc] 24)).alloc (.cells #[.slice sa s.shells.length sc, .slice ta s.tests.length tc] 28))).alloc (.cells #[.int .i64 0, .slice none 0 0, .slice none 0 0, .slice none 0 0] 89))).trans hx2
    have hzl := hxe.size
    have c0 := hx2.cell (a := ⟨w.heap.size + 2, 0, none⟩) (v := .int .i64 0) (by go_simp)
    have f0 : w2.frozen? ⟨w.heap.size + 2, 0, none⟩ = false := (hx2.frozen (a := ⟨w.heap.size + 2, 0, none⟩) (by simp)).trans (by go_simp)
    have c1 := hx2.cell (a := ⟨w.heap.size + 2, 1, none⟩) (v := .slice none 0 0) (by go_simp)
    have f1 : w2.frozen? ⟨w.heap.size + 2, 1, none⟩ = false := (hx2.frozen (a := ⟨w.heap.size + 2, 1, none⟩) (by simp)).trans (by go_simp)
    have c2 := hx2.cell (a := ⟨w.heap.size + 2, 2, none⟩) (v := .slice none 0 0) (by go_simp)
    have f2 : w2.frozen? ⟨w.heap.size + 2, 2, none⟩ = false := (hx2.frozen (a := ⟨w.heap.size + 2, 2, none⟩) (by simp)).trans (by go_simp)
    have c3 := hx2.cell (a := ⟨w.heap.size + 2, 3, none⟩) (v := .slice none 0 0) (by go_simp)
    have f3 : w2.frozen? ⟨w.heap.size + 2, 3, none⟩ = false := (hx2.frozen (a := ⟨w.heap.size + 2, 3, none⟩) (by simp)).trans (by go_simp)
    try go_simp
    refine hK.out _ _ ?_ (fun hHeld => ?_)
    ·exact HS.out _ (by repeat (first | exact hxe | exact Ext.refl _ | apply Ext.drew | apply Ext.alloc | refine Ext.setCell ?_ (by first | exact hzl | (simp; done) | (have := hzl; simp at this ⊢; omega)) _))
    clear hK K'
    try simp only [yA, yB, yC]
    refine hTk (i := 9) (d := some 10) (v := ?_) (fun o ho => ?_) hHeld ?_
    rotate_left
    ·simp only [zA, zB, zC, zD] at ho
     subst ho
     refine ⟨by rfl, fun w hSw => ?_⟩
     (try dsimp only at hSw)
     go_simp
     try with_reducible rfl
    try simp only [Act.put, yA, yB, yC]
    refine hTk (i := 10) (d := some 20) (v := ?_) (fun o ho => ?_) hHeld ?_
    rotate_left
    ·simp only [zA, zB, zC, zD] at ho
     subst ho
     refine ⟨by rfl, fun w hSw => ?_⟩
     (try dsimp only at hSw)
     go_simp
     try with_reducible rfl
    try simp only [Act.put, yA, yB, yC]
    refine hTk (i := 11) (d := some 21) (v := ?_) (fun o ho => ?_) hHeld ?_
    rotate_left
    ·simp only [zA, zB, zC, zD] at ho
     subst ho
     refine ⟨by rfl, fun w hSw => ?_⟩
     (try dsimp only at hSw)
     go_simp
     try with_reducible rfl
    try simp only [Act.put, yA, yB, yC]
    refine wpAnyH_ready (rs := [13]) (by kernel_rfl) (by simp) ?_
    refine held_step (i := 13) (by kernel_rfl) (fun o ho K' hK => ?_) ?_
    ·simp only [zA, zB, zC, zD] at ho
     subst ho
     go_simp
     refine hK.out _ _ ?_ (fun hHeld => ?_)
     ·exact HS.out _ (by repeat (first | exact hxe | exact Ext.refl _ | apply Ext.drew | apply Ext.alloc | refine Ext.setCell ?_ (by first | exact hzl | (simp; done) | (have := hzl; simp at this ⊢; omega)) _))
     clear hK K'
     try simp only [yA, yB, yC]
     refine wpAnyH_ready (rs := [14]) (by kernel_rfl) (by simp) ?_
     refine held_step (i := 14) (by kernel_rfl) (fun o ho K' hK => ?_) ?_
     ·simp only [zA, zB, zC, zD] at ho
      subst ho
      go_simp
      refine hK.out _ _ ?_ (fun hHeld => ?_)
      ·exact HS.out _ (by repeat (first | exact hxe | exact Ext.refl _ | apply Ext.drew | apply Ext.alloc | refine Ext.setCell ?_ (by first | exact hzl | (simp; done) | (have := hzl; simp at this ⊢; omega)) _))
      clear hK K'
      try simp only [yA, yB, yC]
      refine wpAnyH_done (by kernel_rfl) ?_ _
      try simp only [yA, yB, yC]
      go_wp2_with (go_at_call 49; refine (HC.out _ (by repeat (first | exact HX0.out.trans hxe | apply Ext.drew | apply Ext.alloc | refine Ext.setCell ?_ (by first | (simp only []; omega) | (have := HX0.out.size; omega) | (have := (HX0.out.trans hxe).size; omega)) _))).mono ?_; rintro e w4 ⟨v, rfl, hx4, hp⟩; have hx44 : Ext w w4 := Ext.trans (by repeat (first | exact HX0.out.trans hxe | apply Ext.drew | apply Ext.alloc | refine Ext.setCell ?_ (by first | (simp only []; omega) | (have := HX0.out.size; omega) | (have := (HX0.out.trans hxe).size; omega)) _)) hx4; have HP := Lib.hid hp; clear hp hx4)
      go_ret2
      exact HRES.out _ _ hx44 HP.out
     exact AllReadyH.nil
    exact AllReadyH.nil
   exact AllReadyH.nil
  exact AllReadyH.nil
 refine held_step (i := 12) (by kernel_rfl) (fun o ho K' hK => ?_) ?_
 ·simp only [zA, zB, zC, zD] at ho
  subst ho
  go_simp
  refine hK.out _ _ ?_ (fun hHeld => ?_)
  ·exact HS.out _ (by repeat (first | exact hxe | exact Ext.refl _ | apply Ext.drew | apply Ext.alloc | refine Ext.setCell ?_ (by first | exact hzl | (simp; done) | (have := hzl; simp at this ⊢; omega)) _))
  clear hK K'
  try simp only [yA, yB, yC]
  refine wpAnyH_ready (rs := [7]) (by kernel_rfl) (by simp) ?_
  refine held_step (i := 7) (by kernel_rfl) (fun o ho K' hK => ?_) ?_
  ·simp only [zA, zB, zC, zD] at ho
   subst ho
   go_simp
   go_at_call 36
   refine (in_any _ _ _ _).mono ?_
   rintro e w1 ⟨rfl, rfl⟩
   try go_simp
   refine hK.out _ _ ?_ (fun hHeld => ?_)
   ·exact HS.out _ (by repeat (first | exact hxe | exact Ext.refl _ | apply Ext.drew | apply Ext.alloc | refine Ext.setCell ?_ (by first | exact hzl | (simp; done) | (have := hzl; simp at this ⊢; omega)) _))
   clear hK K'
   try simp only [yA, yB, yC]
   refine wpAnyH_ready (rs := [8]) (by kernel_rfl) (by simp) ?_
   refine held_step (i := 8) (by kernel_rfl) (fun o ho K' hK => ?_) ?_
   ·simp only [zA, zB, zC, zD] at ho
    subst ho
    go_simp
    go_at_call 35
    refine (HA.out _ (by repeat (first | exact HX0.out | apply Ext.drew | apply Ext.alloc))).mono ?_
    rintro e w2 ⟨rfl, hx2⟩
    have hxe : Ext ((w.alloc (.cells #[.int .i64 b.years, .slice ra b.rivers.length rc] 24)).alloc (.cells #[.slice sa s.shells.length sc, .slice ta s.tests.length tc] 28)) w2 := (by repeat (first | exact Ext.refl _ | apply Ext.drew | apply Ext.alloc) : Ext ((w.alloc (.cells #[.int .i64 b.years, .slice ra b.rivers.length rc] 24)).alloc (.cells #[.slice sa s.shells.length sc, .slice ta s.tests.length tc] 28)) ((World.drew ((w.alloc (.cells #[.int .i64 b.years, .slice ra b.rivers.length rc] 24)).alloc (.cells #[.slice sa s.shells.length sc, .slice ta s.tests.length tc] 28))).alloc (.cells #[.int .i64 0, .slice none 0 0, .slice none 0 0, .slice none 0 0] 89))).trans hx2
    have hzl := hxe.size
    have c0 := hx2.cell (a := ⟨w.heap.size + 2, 0, none⟩) (v := .int .i64 0) (by go_simp)
    have f0 : w2.frozen? ⟨w.heap.size + 2, 0, none⟩ = false := (hx2.frozen (a := ⟨w.heap.size + 2, 0, none⟩) (by simp)).trans (by go_simp)
    have c1 := hx2.cell (a := ⟨w.heap.size + 2, 1, none⟩) (v := .slice none 0 0) (by go_simp)
    have f1 : w2.frozen? ⟨w.heap.size + 2, 1, none⟩ = false := (hx2.frozen (a := ⟨w.heap.size + 2, 1, none⟩) (by simp)).trans (by go_simp)
    have c2 := hx2.cell (a := ⟨w.heap.size + 2, 2, none⟩) (v := .slice none 0 0) (by go_simp)
    have f2 : w2.frozen? ⟨w.heap.size + 2, 2, none⟩ = false := (hx2.frozen (a := ⟨w.heap.size + 2, 2, none⟩) (by simp)).trans (by go_simp)
    have c3 := hx2.cell (a := ⟨w.heap.size + 2, 3, none⟩) (v := .slice none 0 0) (by go_simp)
    have f3 : w2.frozen? ⟨w.heap.size + 2, 3, none⟩ = false := (hx2.frozen (a := ⟨w.heap.size + 2, 3, none⟩) (by simp)).trans (by go_simp)
    try go_simp
    refine hK.out _ _ ?_ (fun hHeld => ?_)
    ·exact HS.out _ (by repeat (first | exact hxe | exact Ext.refl _ | apply Ext.drew | apply Ext.alloc | refine Ext.setCell ?_ (by first | exact hzl | (simp; done) | (have := hzl; simp at this ⊢; omega)) _))
    clear hK K'
    try simp only [yA, yB, yC]
    refine hTk (i := 9) (d := some 10) (v := ?_) (fun o ho => ?_) hHeld ?_
    rotate_left
    ·simp only [zA, zB, zC, zD] at ho
     subst ho
     refine ⟨by rfl, fun w hSw => ?_⟩
     (try dsimp only at hSw)
     go_simp
     try with_reducible rfl
    try simp only [Act.put, yA, yB, yC]
    refine hTk (i := 10) (d := some 20) (v := ?_) (fun o ho => ?_) hHeld ?_
    rotate_left
    ·simp only [zA, zB, zC, zD] at ho
     subst ho
     refine ⟨by rfl, fun w hSw => ?_⟩
     (try dsimp only at hSw)
     go_simp
     try with_reducible rfl
    try simp only [Act.put, yA, yB, yC]
    refine hTk (i := 11) (d := some 21) (v := ?_) (fun o ho => ?_) hHeld ?_
    rotate_left
    ·simp only [zA, zB, zC, zD] at ho
     subst ho
     refine ⟨by rfl, fun w hSw => ?_⟩
     (try dsimp only at hSw)
     go_simp
     try with_reducible rfl
    try simp only [Act.put, yA, yB, yC]
    refine wpAnyH_ready (rs := [13]) (by kernel_rfl) (by simp) ?_
    refine held_step (i := 13) (by kernel_rfl) (fun o ho K' hK => ?_) ?_
    ·simp only [zA, zB, zC, zD] at ho
     subst ho
     go_simp
     refine hK.out _ _ ?_ (fun hHeld => ?_)
     ·exact HS.out _ (by repeat (first | exact hxe | exact Ext.refl _ | apply Ext.drew | apply Ext.alloc | refine Ext.setCell ?_ (by first | exact hzl | (simp; done) | (have := hzl; simp at this ⊢; omega)) _))
     clear hK K'
     try simp only [yA, yB, yC]
     refine wpAnyH_ready (rs := [14]) (by kernel_rfl) (by simp) ?_
     refine held_step (i := 14) (by kernel_rfl) (fun o ho K' hK => ?_) ?_
     ·simp only [zA, zB, zC, zD] at ho
      subst ho
      go_simp
      refine hK.out _ _ ?_ (fun hHeld => ?_)
      ·exact HS.out _ (by repeat (first | exact hxe | exact Ext.refl _ | apply Ext.drew | apply Ext.alloc | refine Ext.setCell ?_ (by first | exact hzl | (simp; done) | (have := hzl; simp at this ⊢; omega)) _))
      clear hK K'
      try simp only [yA, yB, yC]
      refine wpAnyH_done (by kernel_rfl) ?_ _
      try simp only [yA, yB, yC]
      go_wp2_with (go_at_call 49; refine (HC.out _ (by repeat (first | exact HX0.out.trans hxe | apply Ext.drew | apply Ext.alloc | refine Ext.setCell ?_ (by first | (simp only []; omega) | (have := HX0.out.size; omega) | (have := (HX0.out.trans hxe).size; omega)) _))).mono ?_; rintro e w4 ⟨v, rfl, hx4, hp⟩; have hx44 : Ext w w4 := Ext.trans (by repeat (first | exact HX0.out.trans hxe | apply Ext.drew | apply Ext.alloc | refine Ext.setCell ?_ (by first | (simp only []; omega) | (have := HX0.out.size; omega) | (have := (HX0.out.trans hxe).size; omega)) _)) hx4; have HP := Lib.hid hp; clear hp hx4)
      go_ret2
      exact HRES.out _ _ hx44 HP.out
     exact AllReadyH.nil
    exact AllReadyH.nil
   exact AllReadyH.nil
  exact AllReadyH.nil
 exact AllReadyH.nil
theorem Origins_any (bv sv : Value) (b : Book) (s : Sack) (i : Int) (w : World) (hb : BookAt w bv b) (hs : SackAt w sv s) : Calls Tryz.prog 14 #[bv, sv, .int .i64 i] w (OriginsRes b s i w) := by
 by_cases hn : askN b s (inB i 0 (s.shells.length - 1)) = 0
 ·exact Origins_yes bv sv b s i w hb hs hn
 ·exact Origins_no bv sv b s i w hb hs hn
end Go.Proofs.YtiodjapdiflphaaGreatDoor
