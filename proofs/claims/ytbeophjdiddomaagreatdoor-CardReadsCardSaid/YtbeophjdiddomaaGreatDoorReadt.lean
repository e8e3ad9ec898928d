/- card.read: what follows its loop. -/
import Derived.Test.YtbeophjdiddomaaGreatDoorReadl
namespace Go.Proofs.YtbeophjdiddomaaGreatDoor
open Go.RowKit

set_option maxRecDepth 1000000 in
set_option maxHeartbeats 64000000 in
theorem readt_no (s : List UInt8) (w w1 w4 : World) (b L nn vb vo vc : Nat) (p x0 x1 x2 x3 : Int) (h : ReadAt s w w1 w4 b L nn vb vo vc p x0 x1 x2 x3) (c1 c5 c7 c10 c11 c12 c13 c14 c15 c16 c17 c18 c19 c20 c21 c22 c23 c24 c25 c26 c27 c28 c29 c30 c31 c32 c33 c34 c35 c36 c37 c38 c39 c40 c41 c42 c43 c44 c45 c46 c47 c48 c49 c50 c51 c85 c86 c87 c88 c89 c90 c91 c92 c93 c94 c95 c96 c97 c98 c99 c100 c101 c102 c103 c104 c105 c106 c107 u8 u9 u54 u55 u56 u57 u58 u59 u60 u61 u62 u63 u64 u65 u66 u67 u68 u69 u70 u71 u72 u73 u74 u75 u76 u77 u78 u79 u80 u81 u82 u83 u84 : Value) (hv : Value) (wr : World) (hrel : wr.ownsRow (w4.heap.size + 1) 31 6 hv nn ((housesOf s nn).flatMap House.cells) ∧ Hid (wr.heap[w4.heap.size]? = some (boxR8 p x0 x1 x2 x3 hv 0 0)) ∧ Hid (∀ i, i < nn → toldOk wHouse 6 (lineAt s (i + 2)) = true) ∧ Ext w4 wr) (q3 : toldOk wAll 2 (lineAt s (nn + 2)) = false) : Code.wp Tryz.prog readRest (bodyPost Tryz.prog Tryz.f52 (ReadPost s w)) ⟨#[strV s, c1, .pointer (some ⟨w.heap.size, 0, none⟩), .slice (some ⟨b, 0, none⟩) L L, .slice (some ⟨vb, vo, none⟩) 2 vc, c5, .pointer (some ⟨w4.heap.size, 0, none⟩), c7, u8, u9, c10, c11, c12, c13, c14, c15, c16, c17, c18, c19, c20, c21, c22, c23, c24, c25, c26, c27, c28, c29, c30, c31, c32, c33, c34, c35, c36, c37, c38, c39, c40, c41, c42, c43, c44, c45, c46, c47, c48, c49, c50, c51, .slice (some ⟨b, 2, none⟩) nn (L - 2), .int .i64 (nn : Int), u54, u55, u56, u57, u58, u59, u60, u61, u62, u63, u64, u65, u66, u67, u68, u69, u70, u71, u72, u73, u74, u75, u76, u77, u78, u79, u80, u81, u82, u83, u84, c85, c86, c87, c88, c89, c90, c91, c92, c93, c94, c95, c96, c97, c98, c99, c100, c101, c102, c103, c104, c105, c106, c107], []⟩ wr := by
  obtain ⟨hown, hrb, hall, hx⟩ := hrel
  obtain ⟨ht, hm, hs, hL, hQL, hn01, hnn, hPN, hMO, hXX, hQ0, hQ1, hx1, hx24, hy4, hst, a1, -⟩ := h
  have HTO := Lib.hid (fun i kind word M w1 (hx : Ext w w1) (hM : 2 ≤ M ∧ M ≤ 6) (hn : NameAt kind word) (h : toldOk word M (lineAt s i) = true) => told_ok (lineAt s i) kind word M w1 (ht.ext hx) (hm.ext hx) (by have := lineAt_short s i; omega) hM hn h)
  have HTN := Lib.hid (fun i kind word M w1 (hx : Ext w w1) (hM : 2 ≤ M ∧ M ≤ 6) (hn : NameAt kind word) (h : toldOk word M (lineAt s i) = false) => told_no (lineAt s i) kind word M w1 (ht.ext hx) (hm.ext hx) (by have := lineAt_short s i; omega) hM hn h)
  have HTX := Lib.hid (fun v r w1 (hx : Ext w w1) (hr : RoundAt w1 v r) (hB : TextB r) => text_any v r w1 hr hB (ht.ext hx))
  have HN0 := Lib.hid (show NameAt 0 wRound from nm_at0)
  have HN1 := Lib.hid (show NameAt 1 wWeigh from nm_at1)
  have HN2 := Lib.hid (show NameAt 2 wHouse from nm_at2)
  have HN3 := Lib.hid (show NameAt 3 wAll from nm_at3)
  have HSU := Lib.hid sure_yes
  have HSN := Lib.hid sure_no
  have HL := Lib.hid hL
  have HQL := Lib.hid hQL
  have HPN := Lib.hid hPN
  have HMO := Lib.hid hMO
  have HXX := Lib.hid hXX
  have HQ0 := Lib.hid hQ0
  have HQ1 := Lib.hid hQ1
  have HST := Lib.hid hst
  have hmix : Tryz.prog.follows .mixedOrders = true := by kernel_rfl
  clear ht hm hL hQL hPN hMO hXX hQ0 hQ1 hst
  conv => arg 2; whnf
  have hl3 : (splitL 10 s)[nn + 2]? = some (lineAt s (nn + 2)) := lineAt_get (by have := HL.out; have := HQL.out; omega)
  have z3 := (hx24.trans hx).cell (strs_cell HST.out hl3)
  have a1r := hx.cell a1
  have E2 : IntKind.i64.wrap ((nn : Int) + 2) = (nn : Int) + 2 := IntWalk.i64_in _ (by omega)
  have e2 : (nn : Int) + 2 < (L : Int) := by have := HQL.out; omega
  have e1 : (0 : Int) ≤ (nn : Int) + 2 := by omega
  have e4 : ((nn : Int) + 2).toNat = nn + 2 := by omega
  have hyr := hy4.trans hx
  have HF : Hid (∀ e w', StrangeP w e w' → ReadPost s w e w') := fun e w' h => .inr ⟨(fun ⟨r, hr⟩ => by
    have h1 := (text_foot hr).1
    rw [← many_text hr, HMO.out, q3] at h1; cases h1), h⟩
  have HT3 := Lib.hid (fun w1 hx => HTN.out (nn + 2) 3 wAll 2 w1 hx ⟨by omega, by omega⟩ HN3.out q3)
  clear q3 hown
  go_wp2_with (go_at_call 89; refine (HT3.out _ hyr).mono ?_; rintro e w6 ⟨why, rfl, hx6⟩)
  exact ⟨rfl, HF.out _ _ ⟨why, rfl, hyr.trans hx6⟩⟩
set_option maxRecDepth 1000000 in
set_option maxHeartbeats 64000000 in
theorem readt_yes (s : List UInt8) (w w1 w4 : World) (b L nn vb vo vc : Nat) (p x0 x1 x2 x3 : Int) (h : ReadAt s w w1 w4 b L nn vb vo vc p x0 x1 x2 x3) (c1 c5 c7 c10 c11 c12 c13 c14 c15 c16 c17 c18 c19 c20 c21 c22 c23 c24 c25 c26 c27 c28 c29 c30 c31 c32 c33 c34 c35 c36 c37 c38 c39 c40 c41 c42 c43 c44 c45 c46 c47 c48 c49 c50 c51 c85 c86 c87 c88 c89 c90 c91 c92 c93 c94 c95 c96 c97 c98 c99 c100 c101 c102 c103 c104 c105 c106 c107 u8 u9 u54 u55 u56 u57 u58 u59 u60 u61 u62 u63 u64 u65 u66 u67 u68 u69 u70 u71 u72 u73 u74 u75 u76 u77 u78 u79 u80 u81 u82 u83 u84 : Value) (hv : Value) (wr : World) (hrel : wr.ownsRow (w4.heap.size + 1) 31 6 hv nn ((housesOf s nn).flatMap House.cells) ∧ Hid (wr.heap[w4.heap.size]? = some (boxR8 p x0 x1 x2 x3 hv 0 0)) ∧ Hid (∀ i, i < nn → toldOk wHouse 6 (lineAt s (i + 2)) = true) ∧ Ext w4 wr) (q3 : toldOk wAll 2 (lineAt s (nn + 2)) = true) : Code.wp Tryz.prog readRest (bodyPost Tryz.prog Tryz.f52 (ReadPost s w)) ⟨#[strV s, c1, .pointer (some ⟨w.heap.size, 0, none⟩), .slice (some ⟨b, 0, none⟩) L L, .slice (some ⟨vb, vo, none⟩) 2 vc, c5, .pointer (some ⟨w4.heap.size, 0, none⟩), c7, u8, u9, c10, c11, c12, c13, c14, c15, c16, c17, c18, c19, c20, c21, c22, c23, c24, c25, c26, c27, c28, c29, c30, c31, c32, c33, c34, c35, c36, c37, c38, c39, c40, c41, c42, c43, c44, c45, c46, c47, c48, c49, c50, c51, .slice (some ⟨b, 2, none⟩) nn (L - 2), .int .i64 (nn : Int), u54, u55, u56, u57, u58, u59, u60, u61, u62, u63, u64, u65, u66, u67, u68, u69, u70, u71, u72, u73, u74, u75, u76, u77, u78, u79, u80, u81, u82, u83, u84, c85, c86, c87, c88, c89, c90, c91, c92, c93, c94, c95, c96, c97, c98, c99, c100, c101, c102, c103, c104, c105, c106, c107], []⟩ wr := by
  obtain ⟨hown, hrb, hall, hx⟩ := hrel
  obtain ⟨ht, hm, hs, hL, hQL, hn01, hnn, hPN, hMO, hXX, hQ0, hQ1, hx1, hx24, hy4, hst, a1, -⟩ := h
  have HTO := Lib.hid (fun i kind word M w1 (hx : Ext w w1) (hM : 2 ≤ M ∧ M ≤ 6) (hn : NameAt kind word) (h : toldOk word M (lineAt s i) = true) => told_ok (lineAt s i) kind word M w1 (ht.ext hx) (hm.ext hx) (by have := lineAt_short s i; omega) hM hn h)
  have HTN := Lib.hid (fun i kind word M w1 (hx : Ext w w1) (hM : 2 ≤ M ∧ M ≤ 6) (hn : NameAt kind word) (h : toldOk word M (lineAt s i) = false) => told_no (lineAt s i) kind word M w1 (ht.ext hx) (hm.ext hx) (by have := lineAt_short s i; omega) hM hn h)
  have HTX := Lib.hid (fun v r w1 (hx : Ext w w1) (hr : RoundAt w1 v r) (hB : TextB r) => text_any v r w1 hr hB (ht.ext hx))
  have HN0 := Lib.hid (show NameAt 0 wRound from nm_at0)
  have HN1 := Lib.hid (show NameAt 1 wWeigh from nm_at1)
  have HN2 := Lib.hid (show NameAt 2 wHouse from nm_at2)
  have HN3 := Lib.hid (show NameAt 3 wAll from nm_at3)
  have HSU := Lib.hid sure_yes
  have HSN := Lib.hid sure_no
  have HL := Lib.hid hL
  have HQL := Lib.hid hQL
  have HPN := Lib.hid hPN
  have HMO := Lib.hid hMO
  have HXX := Lib.hid hXX
  have HQ0 := Lib.hid hQ0
  have HQ1 := Lib.hid hQ1
  have HST := Lib.hid hst
  have hmix : Tryz.prog.follows .mixedOrders = true := by kernel_rfl
  clear ht hm hL hQL hPN hMO hXX hQ0 hQ1 hst
  conv => arg 2; whnf
  have hl3 : (splitL 10 s)[nn + 2]? = some (lineAt s (nn + 2)) := lineAt_get (by have := HL.out; have := HQL.out; omega)
  have z3 := (hx24.trans hx).cell (strs_cell HST.out hl3)
  have a1r := hx.cell a1
  have E2 : IntKind.i64.wrap ((nn : Int) + 2) = (nn : Int) + 2 := IntWalk.i64_in _ (by omega)
  have e2 : (nn : Int) + 2 < (L : Int) := by have := HQL.out; omega
  have e1 : (0 : Int) ≤ (nn : Int) + 2 := by omega
  have e4 : ((nn : Int) + 2).toNat = nn + 2 := by omega
  have hyr := hy4.trans hx
  obtain ⟨hl7, -, -⟩ := told_line q3
  obtain ⟨y6, y7, hyy⟩ := two_of hl7
  have HYY := Lib.hid hyy
  have HT3 := Lib.hid (fun w1 hx => HTO.out (nn + 2) 3 wAll 2 w1 hx ⟨by omega, by omega⟩ HN3.out q3)
  have HRO : Hid (roundOf s = ⟨p, x0, x1, x2, x3, housesOf s nn, y6, y7⟩) := by
    unfold Hid roundOf
    rw [HMO.out, HPN.out, HXX.out, hyy]; rfl
  have HLO : Hid (LinesOk s) := ⟨HQ0.out, HQ1.out, by rw [HMO.out]; exact hall.out, by rw [HMO.out]; exact q3⟩
  have HTE := Lib.hid (textB_ofN (round_small HLO.out) (by show (housesOf s (manyOf s)).length ≤ 500; rw [housesOf_len, HMO.out]; omega))
  have HNE : Hid (textT (roundOf s) ≠ s → ¬ ∃ r, TextOf s r) := fun hne ⟨r, hr⟩ => hne (by rw [round_text hr]; exact hr.2)
  have hltr := (Array.getElem?_eq_some_iff.1 hrb.out).1
  obtain ⟨ha, hc2, hvE⟩ : ∃ a c, hv = .slice a nn c := by
    obtain ⟨a, c, e, _⟩ := RowAt.of_owns hown
    exact ⟨a, c, e⟩
  subst hvE
  have HO := Lib.hid hown
  clear q3 hown hl7 hyy
  go_upto_region 13 with (go_at_call 89; refine (HT3.out _ hyr).mono ?_; rintro e w6 ⟨v9, rfl, hx6, hv9⟩; rw [HYY.out] at hv9; obtain ⟨nb, nc, hve9⟩ := owns_succ (show w6.ownsRow wr.heap.size 3 1 v9 (1 + 1) _ from hv9); subst hve9; have g0 := hv9.cellAt 0 (by simp); have g1 := hv9.cellAt 1 (by simp); have hrb6 := (hx6.block hltr).trans hrb.out; have HO6 := Lib.hid (owns_ext HO.out hx6); have hnr := (World.ownsRow.lt hv9 nb rfl).1; clear hv9)
  simp only [List.map_cons, List.map_nil, List.getElem?_cons_zero, List.getElem?_cons_succ] at g0 g1
  obtain ⟨⟨k6, f6⟩, k7, f7⟩ := box_cell67 hrb6
  have hx46 := hx.trans hx6
  have hyw6 := hy4.trans hx46
  clear z3 a1r e1 e2 e4 E2
  have hne6 : nb ≠ w4.heap.size := by omega
  have hs70 : (w6.drew.setCell ⟨w4.heap.size, 6, none⟩ (.int .i64 y6)).cell? ⟨nb, 0, none⟩ = some (.int .i64 y6) ∧ (w6.drew.setCell ⟨w4.heap.size, 6, none⟩ (.int .i64 y6)).cell? ⟨nb, 1, none⟩ = some (.int .i64 y7) := ⟨by rw [World.cell?_setCell_far _ _ _ _ (fun e => hne6 e.symm)]; exact g0, by rw [World.cell?_setCell_far _ _ _ _ (fun e => hne6 e.symm)]; exact g1⟩
  have hs90 : ((w6.drew.setCell ⟨w4.heap.size, 6, none⟩ (.int .i64 y6)).setCell ⟨w4.heap.size, 7, none⟩ (.int .i64 y7)).cell? ⟨nb, 0, none⟩ = some (.int .i64 y6) ∧ ((w6.drew.setCell ⟨w4.heap.size, 6, none⟩ (.int .i64 y6)).setCell ⟨w4.heap.size, 7, none⟩ (.int .i64 y7)).cell? ⟨nb, 1, none⟩ = some (.int .i64 y7) := ⟨by rw [World.cell?_setCell_far _ _ _ _ (fun e => hne6 e.symm)]; exact hs70.1, by rw [World.cell?_setCell_far _ _ _ _ (fun e => hne6 e.symm)]; exact hs70.2⟩
  have HS70 := Lib.hid hs70
  have HS90 := Lib.hid hs90
  have HS60 : Hid (w6.drew.cell? ⟨nb, 0, none⟩ = some (.int .i64 y6) ∧ w6.drew.cell? ⟨nb, 1, none⟩ = some (.int .i64 y7)) := ⟨g0, g1⟩
  have HRB6 := Lib.hid hrb6
  have HX1 := Lib.hid (hx1.trans hx24)
  clear hs70 hs90 hrb6 hn01 hnn g0 g1
  refine wp_region_held_drew (S := (fun w' => w'.cell? ⟨nb, 0, none⟩ = some (.int .i64 y6) ∧ w'.cell? ⟨nb, 1, none⟩ = some (.int .i64 y7))) (by kernel_rfl) ?_ (fun hHeld => ?_)
  · exact HS60.out
  refine held_take (i := 0) (d := some 93) (v := ?_) (by kernel_rfl) (by kernel_rfl) (by kernel_rfl) (by kernel_rfl) (fun _ _ _ h => h) (fun o ho => ?_) hHeld ?_
  rotate_left
  · simp only [List.getElem?_toArray, List.getElem?_cons_zero, Option.some.injEq] at ho
    subst ho
    refine ⟨by rfl, fun w hSw => ?_⟩
    (try dsimp only at hSw)
    go_simp
    try with_reducible rfl
  try simp only [Act.put, List.setIfInBounds_toArray, List.set_cons_zero, List.set_cons_succ]
  refine held_take (i := 1) (d := some 94) (v := ?_) (by kernel_rfl) (by kernel_rfl) (by kernel_rfl) (by kernel_rfl) (fun _ _ _ h => h) (fun o ho => ?_) hHeld ?_
  rotate_left
  · simp only [List.getElem?_toArray, List.getElem?_cons_zero, List.getElem?_cons_succ, Option.some.injEq] at ho
    subst ho
    refine ⟨by rfl, fun w hSw => ?_⟩
    (try dsimp only at hSw)
    go_simp
    try with_reducible rfl
  try simp only [Act.put, List.setIfInBounds_toArray, List.set_cons_zero, List.set_cons_succ]
  refine held_take (i := 2) (d := some 95) (v := ?_) (by kernel_rfl) (by kernel_rfl) (by kernel_rfl) (by kernel_rfl) (fun _ _ _ h => h) (fun o ho => ?_) hHeld ?_
  rotate_left
  · simp only [List.getElem?_toArray, List.getElem?_cons_zero, List.getElem?_cons_succ, Option.some.injEq] at ho
    subst ho
    refine ⟨by rfl, fun w hSw => ?_⟩
    (try dsimp only at hSw)
    go_simp
    try with_reducible rfl
  try simp only [Act.put, List.setIfInBounds_toArray, List.set_cons_zero, List.set_cons_succ]
  refine held_take (i := 3) (d := some 96) (v := ?_) (by kernel_rfl) (by kernel_rfl) (by kernel_rfl) (by kernel_rfl) (fun _ _ _ h => h) (fun o ho => ?_) hHeld ?_
  rotate_left
  · simp only [List.getElem?_toArray, List.getElem?_cons_zero, List.getElem?_cons_succ, Option.some.injEq] at ho
    subst ho
    refine ⟨by rfl, fun w hSw => ?_⟩
    (try dsimp only at hSw)
    go_simp
    try with_reducible rfl
  try simp only [Act.put, List.setIfInBounds_toArray, List.set_cons_zero, List.set_cons_succ]
  refine held_take (i := 4) (d := some 97) (v := ?_) (by kernel_rfl) (by kernel_rfl) (by kernel_rfl) (by kernel_rfl) (fun _ _ _ h => h) (fun o ho => ?_) hHeld ?_
  rotate_left
  · simp only [List.getElem?_toArray, List.getElem?_cons_zero, List.getElem?_cons_succ, Option.some.injEq] at ho
    subst ho
    refine ⟨by rfl, fun w hSw => ?_⟩
    (try dsimp only at hSw)
    go_simp
    try with_reducible rfl
  try simp only [Act.put, List.setIfInBounds_toArray, List.set_cons_zero, List.set_cons_succ]
  refine held_take (i := 5) (d := some 98) (v := ?_) (by kernel_rfl) (by kernel_rfl) (by kernel_rfl) (by kernel_rfl) (fun _ _ _ h => h) (fun o ho => ?_) hHeld ?_
  rotate_left
  · simp only [List.getElem?_toArray, List.getElem?_cons_zero, List.getElem?_cons_succ, Option.some.injEq] at ho
    subst ho
    refine ⟨by rfl, fun w hSw => ?_⟩
    (try dsimp only at hSw)
    go_simp
    try with_reducible rfl
  try simp only [Act.put, List.setIfInBounds_toArray, List.set_cons_zero, List.set_cons_succ]
  refine held_take (i := 6) (d := some 99) (v := ?_) (by kernel_rfl) (by kernel_rfl) (by kernel_rfl) (by kernel_rfl) (fun _ _ _ h => h) (fun o ho => ?_) hHeld ?_
  rotate_left
  · simp only [List.getElem?_toArray, List.getElem?_cons_zero, List.getElem?_cons_succ, Option.some.injEq] at ho
    subst ho
    refine ⟨by rfl, fun w hSw => ?_⟩
    (try dsimp only at hSw)
    go_simp
    try with_reducible rfl
  try simp only [Act.put, List.setIfInBounds_toArray, List.set_cons_zero, List.set_cons_succ]
  refine wpAnyH_ready (rs := [7]) (by kernel_rfl) (by simp) ?_
  refine held_step (i := 7) (by kernel_rfl) (fun o ho K' hK => ?_) ?_
  · simp only [List.getElem?_toArray, List.getElem?_cons_zero, List.getElem?_cons_succ, Option.some.injEq] at ho
    subst ho
    go_simp
    refine hK.out _ _ ?_ (fun hHeld => ?_)
    · exact HS70.out
    clear hK K'
    try simp only [List.setIfInBounds_toArray, List.set_cons_zero, List.set_cons_succ]
    refine held_take (i := 8) (d := some 100) (v := ?_) (by kernel_rfl) (by kernel_rfl) (by kernel_rfl) (by kernel_rfl) (fun _ _ _ h => h) (fun o ho => ?_) hHeld ?_
    rotate_left
    · simp only [List.getElem?_toArray, List.getElem?_cons_zero, List.getElem?_cons_succ, Option.some.injEq] at ho
      subst ho
      refine ⟨by rfl, fun w hSw => ?_⟩
      (try dsimp only at hSw)
      go_simp
      try with_reducible rfl
    try simp only [Act.put, List.setIfInBounds_toArray, List.set_cons_zero, List.set_cons_succ]
    refine wpAnyH_ready (rs := [9]) (by kernel_rfl) (by simp) ?_
    refine held_step (i := 9) (by kernel_rfl) (fun o ho K' hK => ?_) ?_
    · simp only [List.getElem?_toArray, List.getElem?_cons_zero, List.getElem?_cons_succ, Option.some.injEq] at ho
      subst ho
      go_simp
      refine hK.out _ _ ?_ (fun hHeld => ?_)
      · exact HS90.out
      clear hK K'
      try simp only [List.setIfInBounds_toArray, List.set_cons_zero, List.set_cons_succ]
      refine wpAnyH_done (by kernel_rfl) ?_ _
      try simp only [List.setIfInBounds_toArray, List.set_cons_zero, List.set_cons_succ]
      have hx13 : Ext w4 (((w6.setCell ⟨w4.heap.size, 6, none⟩ (.int .i64 y6)).setCell ⟨w4.heap.size, 7, none⟩ (.int .i64 y7)).drew) := ((hx46.setCell (p := ⟨w4.heap.size, 6, none⟩) (Nat.le_refl _) _).setCell (p := ⟨w4.heap.size, 7, none⟩) (Nat.le_refl _) _).drew
      have hrb13 : (((w6.setCell ⟨w4.heap.size, 6, none⟩ (.int .i64 y6)).setCell ⟨w4.heap.size, 7, none⟩ (.int .i64 y7)).drew).heap[w4.heap.size]? = some (boxR8 p x0 x1 x2 x3 (.slice ha nn hc2) y6 y7) := box_put67 (W := w6) HRB6.out y6 y7
      have ho13 := owns_ext (ownsRow_setCell_other (ownsRow_setCell_other HO6.out (a := ⟨w4.heap.size, 6, none⟩) (fun e => by have := owns_block HO6.out _ e; simp only at this; omega) (.int .i64 y6)) (a := ⟨w4.heap.size, 7, none⟩) (fun e => by have := owns_block HO6.out _ e; simp only at this; omega) (.int .i64 y7)) (Ext.refl _).drew
      have HX13 := Lib.hid hx13
      have HRB13 := Lib.hid hrb13
      have HO13 := Lib.hid ho13
      clear hx13 hrb13 ho13 HS70 HS90 HS60 k6 k7 f6 f7
      have hH : HousesAt (((w6.setCell ⟨w4.heap.size, 6, none⟩ (.int .i64 y6)).setCell ⟨w4.heap.size, 7, none⟩ (.int .i64 y7)).drew) (.slice ha nn hc2) (housesOf s nn) := by
        show RowAt _ _ (housesOf s nn).length _
        rw [housesOf_len]; exact RowAt.of_owns HO13.out
      have hRA : RoundAt (((w6.setCell ⟨w4.heap.size, 6, none⟩ (.int .i64 y6)).setCell ⟨w4.heap.size, 7, none⟩ (.int .i64 y7)).drew) (.agg #[.int .i64 p, .int .i64 x0, .int .i64 x1, .int .i64 x2, .int .i64 x3, .slice ha nn hc2, .int .i64 y6, .int .i64 y7]) (roundOf s) := by
        rw [HRO.out]; exact ⟨_, rfl, hH⟩
      have HRA := Lib.hid hRA
      have HTXc := Lib.hid (HTX.out _ (roundOf s) (((w6.setCell ⟨w4.heap.size, 6, none⟩ (.int .i64 y6)).setCell ⟨w4.heap.size, 7, none⟩ (.int .i64 y7)).drew) (hy4.trans HX13.out) hRA HTE.out)
      have HYW := Lib.hid (hy4.trans HX13.out)
      have HZW := Lib.hid (((HX1.out.trans HX13.out).block (b := w.heap.size) (by simp)).trans (World.alloc_heap_new w _))
      obtain ⟨k0, k1, k2, k3, k4, k5, k6, k7⟩ := box_cells8 (show ((w6.setCell ⟨w4.heap.size, 6, none⟩ (.int .i64 y6)).setCell ⟨w4.heap.size, 7, none⟩ (.int .i64 y7)).heap[w4.heap.size]? = some (boxR8 p x0 x1 x2 x3 (.slice ha nn hc2) y6 y7) from HRB13.out)
      have hlt13 := (Array.getElem?_eq_some_iff.1 HRB13.out).1
      clear hH hRA
      by_cases hq : textT (roundOf s) = s
      · have HQ := Lib.hid hq
        rw [hq] at HTXc
        clear hq
        go_upto_region 15 with (first
          | (go_at_call 50; refine HTXc.out.mono ?_; rintro e w14 ⟨rfl, hx14⟩; clear k0 k1 k2 k3 k4 k5 k6 k7; have HB14 := Lib.hid ((hx14.block hlt13).trans HRB13.out); have HZ14 := Lib.hid ((hx14.block (Array.getElem?_eq_some_iff.1 HZW.out).1).trans HZW.out))
          | (go_at_call 90; refine (HSU.out _ _).mono ?_; rintro e w15 ⟨rfl, hw15⟩; subst hw15))
        obtain ⟨hb15, hE15, hT15⟩ := box_set8 HZ14.out (.int .i64 p) (.int .i64 x0) (.int .i64 x1) (.int .i64 x2) (.int .i64 x3) (.slice ha nn hc2) (.int .i64 y6) (.int .i64 y7)
        have hEw := hE15 w (HYW.out.trans hx14) (Nat.le_refl _)
        have hlow := World.ownsRow.lt HO13.out
        have hH14 : RowAt w15 (.slice ha nn hc2) (housesOf s nn).length ((housesOf s nn).flatMap House.cells) := by rw [housesOf_len]; exact RowAt.of_owns (owns_ext HO13.out hx14)
        have hHF := RowAt.touch hH14 hT15 (fun a n c e hm => by
          cases e
          have h9 : w.heap.size < w4.heap.size := by have := HX1.out.size; simp at this; omega
          have h8 := hown_block HO13.out
          have hm2 : _ = w.heap.size := hm
          omega)
        refine wp_region_list ?_
        refine wpList_load_mid rfl _ _ rfl w4.heap.size 0 rfl [.int .i64 p, .int .i64 x0, .int .i64 x1, .int .i64 x2, .int .i64 x3, .slice ha nn hc2, .int .i64 y6, .int .i64 y7] _ (box_range8 HB14.out) Tryz.underlying26 rfl (by kernel_rfl) ?_
        refine wpList_store_mid rfl _ _ _ rfl w.heap.size 0 #[.int .i64 p, .int .i64 x0, .int .i64 x1, .int .i64 x2, .int .i64 x3, .slice ha nn hc2, .int .i64 y6, .int .i64 y7] rfl rfl (box_there8 HZ14.out) (by kernel_rfl) (by simp [Value.oneCell']) ?_
        have HB15 := Lib.hid hb15
        have HF15 := Lib.hid (And.intro hHF hEw)
        change wpList _ _ _ _ _ (_root_.Go.World.setCells _ w.heap.size 0 [.int .i64 p, .int .i64 x0, .int .i64 x1, .int .i64 x2, .int .i64 x3, .slice ha nn hc2, .int .i64 y6, .int .i64 y7])
        clear hb15 hE15 hT15 hEw hHF hH14 hlow
        generalize World.setCells _ w.heap.size 0 [.int .i64 p, .int .i64 x0, .int .i64 x1, .int .i64 x2, .int .i64 x3, .slice ha nn hc2, .int .i64 y6, .int .i64 y7] = W15 at *
        go_wp2
        refine bodyPost_ret (results_cell_row rfl _ _ w.heap.size _ _ _ _ rfl HB15.out Tryz.underlying26 rfl (by kernel_rfl)) rfl ?_
        exact .inl ⟨_, rfl, ⟨round_small HLO.out, HQ.out⟩, by rw [HRO.out]; exact ⟨_, rfl, HF15.out.1, fun a n c e => by cases e; have := hown_block HO13.out; have := HX1.out.size; simp at this; omega⟩, HF15.out.2⟩
      · have HQ := Lib.hid hq
        have q1 : decide (textT (roundOf s) = s) = false := by simpa using hq
        have q2' : (textT (roundOf s) == s) = false := by simpa using hq
        clear hq
        generalize textT (roundOf s) = tt at *
        go_wp2_with (first
          | (go_at_call 50; refine HTXc.out.mono ?_; rintro e w14 ⟨rfl, hx14⟩; clear k0 k1 k2 k3 k4 k5 k6 k7)
          | (go_at_call 90; refine (HSN.out _ _).mono ?_; rintro e w15 ⟨why, rfl, hx15⟩))
        exact ⟨rfl, .inr ⟨HNE.out HQ.out, why, rfl, (HYW.out.trans hx14).trans hx15⟩⟩
    exact AllReadyH.nil
  exact AllReadyH.nil
theorem readt_any (s : List UInt8) (w w1 w4 : World) (b L nn vb vo vc : Nat) (p x0 x1 x2 x3 : Int) (h : ReadAt s w w1 w4 b L nn vb vo vc p x0 x1 x2 x3) (c1 c5 c7 c10 c11 c12 c13 c14 c15 c16 c17 c18 c19 c20 c21 c22 c23 c24 c25 c26 c27 c28 c29 c30 c31 c32 c33 c34 c35 c36 c37 c38 c39 c40 c41 c42 c43 c44 c45 c46 c47 c48 c49 c50 c51 c85 c86 c87 c88 c89 c90 c91 c92 c93 c94 c95 c96 c97 c98 c99 c100 c101 c102 c103 c104 c105 c106 c107 u8 u9 u54 u55 u56 u57 u58 u59 u60 u61 u62 u63 u64 u65 u66 u67 u68 u69 u70 u71 u72 u73 u74 u75 u76 u77 u78 u79 u80 u81 u82 u83 u84 : Value) (hv : Value) (wr : World) (hrel : wr.ownsRow (w4.heap.size + 1) 31 6 hv nn ((housesOf s nn).flatMap House.cells) ∧ Hid (wr.heap[w4.heap.size]? = some (boxR8 p x0 x1 x2 x3 hv 0 0)) ∧ Hid (∀ i, i < nn → toldOk wHouse 6 (lineAt s (i + 2)) = true) ∧ Ext w4 wr) : Code.wp Tryz.prog readRest (bodyPost Tryz.prog Tryz.f52 (ReadPost s w)) ⟨#[strV s, c1, .pointer (some ⟨w.heap.size, 0, none⟩), .slice (some ⟨b, 0, none⟩) L L, .slice (some ⟨vb, vo, none⟩) 2 vc, c5, .pointer (some ⟨w4.heap.size, 0, none⟩), c7, u8, u9, c10, c11, c12, c13, c14, c15, c16, c17, c18, c19, c20, c21, c22, c23, c24, c25, c26, c27, c28, c29, c30, c31, c32, c33, c34, c35, c36, c37, c38, c39, c40, c41, c42, c43, c44, c45, c46, c47, c48, c49, c50, c51, .slice (some ⟨b, 2, none⟩) nn (L - 2), .int .i64 (nn : Int), u54, u55, u56, u57, u58, u59, u60, u61, u62, u63, u64, u65, u66, u67, u68, u69, u70, u71, u72, u73, u74, u75, u76, u77, u78, u79, u80, u81, u82, u83, u84, c85, c86, c87, c88, c89, c90, c91, c92, c93, c94, c95, c96, c97, c98, c99, c100, c101, c102, c103, c104, c105, c106, c107], []⟩ wr := by
  cases q3 : toldOk wAll 2 (lineAt s (nn + 2)) with
  | false => exact readt_no s w w1 w4 b L nn vb vo vc p x0 x1 x2 x3 h c1 c5 c7 c10 c11 c12 c13 c14 c15 c16 c17 c18 c19 c20 c21 c22 c23 c24 c25 c26 c27 c28 c29 c30 c31 c32 c33 c34 c35 c36 c37 c38 c39 c40 c41 c42 c43 c44 c45 c46 c47 c48 c49 c50 c51 c85 c86 c87 c88 c89 c90 c91 c92 c93 c94 c95 c96 c97 c98 c99 c100 c101 c102 c103 c104 c105 c106 c107 u8 u9 u54 u55 u56 u57 u58 u59 u60 u61 u62 u63 u64 u65 u66 u67 u68 u69 u70 u71 u72 u73 u74 u75 u76 u77 u78 u79 u80 u81 u82 u83 u84 hv wr hrel q3
  | true => exact readt_yes s w w1 w4 b L nn vb vo vc p x0 x1 x2 x3 h c1 c5 c7 c10 c11 c12 c13 c14 c15 c16 c17 c18 c19 c20 c21 c22 c23 c24 c25 c26 c27 c28 c29 c30 c31 c32 c33 c34 c35 c36 c37 c38 c39 c40 c41 c42 c43 c44 c45 c46 c47 c48 c49 c50 c51 c85 c86 c87 c88 c89 c90 c91 c92 c93 c94 c95 c96 c97 c98 c99 c100 c101 c102 c103 c104 c105 c106 c107 u8 u9 u54 u55 u56 u57 u58 u59 u60 u61 u62 u63 u64 u65 u66 u67 u68 u69 u70 u71 u72 u73 u74 u75 u76 u77 u78 u79 u80 u81 u82 u83 u84 hv wr hrel q3
end Go.Proofs.YtbeophjdiddomaaGreatDoor
