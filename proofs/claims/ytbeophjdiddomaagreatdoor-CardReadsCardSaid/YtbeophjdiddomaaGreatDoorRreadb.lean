/- The reference's Read: its loop's last ways, the loop, what follows it, the whole. -/
import Derived.Test.YtbeophjdiddomaaGreatDoorRread
import Derived.Test.YtbeophjdiddomaaGreatDoorSearchr
namespace Go.Proofs.YtbeophjdiddomaaGreatDoor
open Go.RowKit

set_option maxRecDepth 1000000 in
set_option maxHeartbeats 64000000 in
theorem rreadl_house {K : Act → World → Prop} (s : List UInt8) (w w1 : World) (b L cap : Nat) (h : RReadAt s w w1 b L cap) (u1 u7 u8 u9 u10 u11 u12 u13 u14 u15 u16 u17 u18 u19 u20 u21 u22 u23 u24 u25 u26 u27 u28 u29 u30 u31 u32 u33 u34 u35 u36 u37 u38 u39 u40 u41 u42 u43 u44 u45 u46 u47 u48 u49 u50 u51 u52 u53 u54 u55 u56 u57 u58 u59 u60 u61 u62 u63 u64 u65 u66 u67 u68 u69 u70 u71 u72 u73 u74 u75 u76 u77 u78 u79 u80 u81 u82 u83 u84 u85 u86 u87 u88 u89 u90 u91 u92 u93 u94 u95 u96 u97 u98 u99 u100 u101 u102 u103 u104 u105 u106 u107 u108 u109 : Value) (R : Act → World → Prop) (wr : World) (i : Nat) (r : Round) (hv : Value) (hlt : i + 2 < L) (hrel : RRel s w w1 i r hv wr) (q0 : toldOk wRound 2 (lineAt s i) = false) (q1 : toldOk wWeigh 4 (lineAt s i) = false) (q2 : toldOk wHouse 6 (lineAt s i) = true) (hR : ∀ (y1 y7 y8 y9 y10 y11 y12 y13 y14 y15 y16 y17 y18 y19 y20 y21 y22 y23 y24 y25 y26 y27 y28 y29 y30 y31 y32 y33 y34 y35 y36 y37 y38 y39 y40 y41 y42 y43 y44 y45 y46 y47 y48 y49 y50 y51 y52 y53 y54 y55 y56 y57 y58 y59 y60 y61 y62 y63 y64 y65 y66 y67 y68 y69 y70 y71 y72 y73 y74 y75 y76 y77 y78 y79 y80 y81 y82 y83 y84 y85 y86 y87 y88 y89 y90 y91 y92 y93 y94 y95 y96 y97 y98 y99 y100 y101 y102 y103 y104 y105 y106 y107 y108 y109 : Value) (r' : Round) (hv' : Value) (wr' : World), RRel s w w1 (i + 1) r' hv' wr' → R ⟨#[strV s, y1, .pointer (some ⟨w.heap.size, 0, none⟩), .bool false, .pointer (some ⟨w.heap.size + 1, 0, none⟩), .slice (some ⟨b, 0, none⟩) L cap, .int .i64 ((i : Int) + 1), y7, y8, y9, y10, y11, y12, y13, y14, y15, y16, y17, y18, y19, y20, y21, y22, y23, y24, y25, y26, y27, y28, y29, y30, y31, y32, y33, y34, y35, y36, y37, y38, y39, y40, y41, y42, y43, y44, y45, y46, y47, y48, y49, y50, y51, y52, y53, y54, y55, y56, y57, y58, y59, y60, y61, y62, y63, y64, y65, y66, y67, y68, y69, y70, y71, y72, y73, y74, y75, y76, y77, y78, y79, y80, y81, y82, y83, y84, y85, y86, y87, y88, y89, y90, y91, y92, y93, y94, y95, y96, y97, y98, y99, y100, y101, y102, y103, y104, y105, y106, y107, y108, y109], []⟩ wr') : Code.wp Tryz.prog rreadBody (Exit.then R (Exit.inBlock 0 (Exit.then K (bodyPost Tryz.prog Tryz.f22 (RReadPost s w))))) ⟨#[strV s, u1, .pointer (some ⟨w.heap.size, 0, none⟩), .bool false, .pointer (some ⟨w.heap.size + 1, 0, none⟩), .slice (some ⟨b, 0, none⟩) L cap, .int .i64 (i : Int), u7, u8, u9, u10, u11, u12, u13, u14, u15, u16, u17, u18, u19, u20, u21, u22, u23, u24, u25, u26, u27, u28, u29, u30, u31, u32, u33, u34, u35, u36, u37, u38, u39, u40, u41, u42, u43, u44, u45, u46, u47, u48, u49, u50, u51, u52, u53, u54, u55, u56, u57, u58, u59, u60, u61, u62, u63, u64, u65, u66, u67, u68, u69, u70, u71, u72, u73, u74, u75, u76, u77, u78, u79, u80, u81, u82, u83, u84, u85, u86, u87, u88, u89, u90, u91, u92, u93, u94, u95, u96, u97, u98, u99, u100, u101, u102, u103, u104, u105, u106, u107, u108, u109], []⟩ wr := by
  obtain ⟨hs, hL, hL1, hL5, hx1, hst, hbb⟩ := h
  obtain ⟨hf, ho, hb, ht⟩ := hrel
  have hw2 : Ext w ((w.alloc (.cells #[.int .i64 0, .int .i64 0, .int .i64 0, .int .i64 0, .int .i64 0, .slice none 0 0, .int .i64 0, .int .i64 0] 26)).alloc (.cells #[.int .i64 0, .int .i64 0, .int .i64 0, .int .i64 0, .int .i64 0, .slice none 0 0, .int .i64 0, .int .i64 0] 26)) := ((Ext.refl w).alloc _).alloc _
  have hxw1 : Ext w w1 := hw2.trans hx1
  have hxw : Ext w wr := Touch.ext hxw1 ht (fun k hk => by have hk' : k = w.heap.size + 1 := hk; omega)
  have hz1 := hx1.size
  simp only [World.size_alloc] at hz1
  have hzr := ht.size
  have hli : (splitL 10 s)[i]? = some (lineAt s i) := lineAt_get (by omega)
  have z0 := ht.cell (strs_cell hst hli) (by simp only; omega)
  have hls := lineAt_short s i
  have E0 : IntKind.i64.wrap ((i : Int) + 2) = (i : Int) + 2 := IntWalk.i64_in _ (by omega)
  have x1 : decide ((i : Int) + 2 < (L : Int)) = true := by simp; omega
  have x2 : (i : Int) < (L : Int) := by omega
  have x3 : (0 : Int) ≤ (i : Int) := by omega
  have x4 : i < L := by omega
  obtain ⟨hl6, -, -⟩ := told_line q2
  obtain ⟨y0, y1, y2, y3, y4, y5, hyy⟩ := six_of hl6
  have HYY := Lib.hid hyy
  have HT0 := Lib.hid (fun w1 => rtold_any (lineAt s i) wRound 2 w1 (by omega) ⟨by omega, by omega⟩)
  have HQ0 := Lib.hid q0
  have tok0 : True := trivial
  have HT1 := Lib.hid (fun w1 => rtold_any (lineAt s i) wWeigh 4 w1 (by omega) ⟨by omega, by omega⟩)
  have HQ1 := Lib.hid q1
  have tok1 : True := trivial
  have HT2 := Lib.hid (fun w1 => rtold_any (lineAt s i) wHouse 6 w1 (by omega) ⟨by omega, by omega⟩)
  have HQ2 := Lib.hid q2
  have tok2 : True := trivial
  have HST : Hid (rstep r (lineAt s i) = some { r with houses := r.houses ++ [(⟨y0, y1, y2, y3, y4, y5⟩ : House)] }) := by unfold Hid rstep; rw [if_neg (by rw [q0]; decide), if_neg (by rw [q1]; decide), if_pos q2, hyy]; rfl
  have HF : Hid (rfold s (i + 1) = some { r with houses := r.houses ++ [(⟨y0, y1, y2, y3, y4, y5⟩ : House)] }) := by unfold Hid; rw [rfold_succ hf]; exact HST.out
  have hnl := (nums_fold hf).2
  have hs6 : r.houses.length + 1 ≤ maxLen ∧ (r.houses.length + 1) * 48 ≤ 140737488355328 := by unfold maxLen; omega
  have HSZ := Lib.hid hs6
  have HHV := Lib.hid (fun k hk => (World.ownsRow.lt ho k hk).2)
  have HOE : Hid (∀ (W : World) v, W.ownsRow w1.heap.size 31 6 v (r.houses.length + 1) (r.houses.flatMap House.cells ++ [.int .i64 y0, .int .i64 y1, .int .i64 y2, .int .i64 y3, .int .i64 y4, .int .i64 y5]) → W.ownsRow w1.heap.size 31 6 v (r.houses ++ [(⟨y0, y1, y2, y3, y4, y5⟩ : House)]).length ((r.houses ++ [(⟨y0, y1, y2, y3, y4, y5⟩ : House)]).flatMap House.cells)) := fun W v h => by
    rw [List.length_append, List.length_singleton, List.flatMap_append]; exact h
  clear hs6
  have HRR := Lib.hid hR
  have HO := Lib.hid ho
  have HB := Lib.hid hb
  have HTT := Lib.hid ht
  have hltr := (Array.getElem?_eq_some_iff.1 hb).1
  have hmix : Tryz.prog.follows .mixedOrders = true := by kernel_rfl
  clear q0 q1 q2 hyy hl6 hR hf ho hb ht hst hL hs hxw hxw1 hw2 hx1 HST
  conv => arg 2; whnf
  go_upto_region 14 with (first
    | (go_at_call 56; have _t := tok0; refine (HT0.out _).mono ?_; rintro e wt0 ⟨_, rfl, hxt0, -, hno0⟩; have hno0' := hno0 HQ0.out; subst hno0'; have hy0 := (Ext.refl wr).trans hxt0; have z0 := hxt0.cell z0; clear tok0 _t)
    | (go_at_call 56; have _t := tok1; refine (HT1.out _).mono ?_; rintro e wt1 ⟨_, rfl, hxt1, -, hno1⟩; have hno1' := hno1 HQ1.out; subst hno1'; have hy1 := hy0.trans hxt1; have z0 := hxt1.cell z0; clear tok1 _t)
    | (go_at_call 56; have _t := tok2; refine (HT2.out _).mono ?_; rintro e wt2 ⟨vt, rfl, hxt2, hyes, -⟩; have hv9 := hyes HQ2.out; clear hyes; rw [HYY.out] at hv9; have hy2 := hy1.trans hxt2; have hy := hy2; clear tok2 _t; obtain ⟨nb, nc, hve9⟩ := owns_succ (show wt2.ownsRow _ 3 1 vt (5 + 1) _ from hv9); subst hve9; have HV9 := Lib.hid hv9; have HB6 := Lib.hid ((hy.block hltr).trans HB.out); have hnb := (World.ownsRow.lt hv9 nb rfl).1; clear hv9))
  obtain ⟨g0, g1, g2, g3, g4, g5⟩ := cells_six HV9.out
  have g6 := (box_cell5 HB6.out).1
  have hzt0 := hxt0.size
  have hzt1 := hxt1.size
  have hzt2 := hy.size
  have hz6 : w1.heap.size ≤ wt2.heap.size := by omega
  have hal6 := ((Ext.refl wt2).drew).alloc (.cells #[.int .i64 y0, .int .i64 y1, .int .i64 y2, .int .i64 y3, .int .i64 y4, .int .i64 y5] 31)
  have hHV2 := HHV.out
  have HHV : Hid (∀ k, hv.ownBlock = some k → k < wr.heap.size) := hHV2
  clear hHV2
  refine wp_region_noPanic ?_
  refine wp_region_any (by kernel_rfl) (wpAny_of_till (z := 24) (S := (fun w' => w'.cell? ⟨w.heap.size + 1, 5, none⟩ = some hv ∧ w'.cell? ⟨nb, 0, none⟩ = some (.int .i64 y0) ∧ w'.cell? ⟨nb, 1, none⟩ = some (.int .i64 y1) ∧ w'.cell? ⟨nb, 2, none⟩ = some (.int .i64 y2) ∧ w'.cell? ⟨nb, 3, none⟩ = some (.int .i64 y3) ∧ w'.cell? ⟨nb, 4, none⟩ = some (.int .i64 y4) ∧ w'.cell? ⟨nb, 5, none⟩ = some (.int .i64 y5))) _ _ _ _ ?_)
  change wpTill _ _ _ _ _ _ _ _ _ wt2.drew
  have hS0 := (show wt2.drew.cell? ⟨w.heap.size + 1, 5, none⟩ = some hv ∧ wt2.drew.cell? ⟨nb, 0, none⟩ = some (.int .i64 y0) ∧ wt2.drew.cell? ⟨nb, 1, none⟩ = some (.int .i64 y1) ∧ wt2.drew.cell? ⟨nb, 2, none⟩ = some (.int .i64 y2) ∧ wt2.drew.cell? ⟨nb, 3, none⟩ = some (.int .i64 y3) ∧ wt2.drew.cell? ⟨nb, 4, none⟩ = some (.int .i64 y4) ∧ wt2.drew.cell? ⟨nb, 5, none⟩ = some (.int .i64 y5) from ⟨g6, g0, g1, g2, g3, g4, g5⟩)
  refine till_at (i := 0) (d := some 64) (v := ?_) (by kernel_rfl) (by kernel_rfl) (by kernel_rfl) (by kernel_rfl) (by kernel_rfl) (fun _ _ _ h => h) (fun o ho => ?_) hS0 ?_
  rotate_left
  · simp only [List.getElem?_toArray, List.getElem?_cons_zero, Option.some.injEq] at ho
    subst ho
    refine Or.inl ⟨by rfl, fun w' hSw => ?_⟩
    obtain ⟨hSw0, hSw1, hSw2, hSw3, hSw4, hSw5, hSw6⟩ := hSw
    go_simp
    try with_reducible rfl
  try simp only [Act.put, List.setIfInBounds_toArray, List.set_cons_zero, List.set_cons_succ]
  refine till_at (i := 1) (d := some 65) (v := ?_) (by kernel_rfl) (by kernel_rfl) (by kernel_rfl) (by kernel_rfl) (by kernel_rfl) (fun _ _ _ h => h) (fun o ho => ?_) hS0 ?_
  rotate_left
  · simp only [List.getElem?_toArray, List.getElem?_cons_zero, List.getElem?_cons_succ, Option.some.injEq] at ho
    subst ho
    refine Or.inl ⟨by rfl, fun w' hSw => ?_⟩
    obtain ⟨hSw0, hSw1, hSw2, hSw3, hSw4, hSw5, hSw6⟩ := hSw
    go_simp
    try with_reducible rfl
  try simp only [Act.put, List.setIfInBounds_toArray, List.set_cons_zero, List.set_cons_succ]
  refine till_at (i := 2) (d := some 66) (v := ?_) (by kernel_rfl) (by kernel_rfl) (by kernel_rfl) (by kernel_rfl) (by kernel_rfl) (fun _ _ _ h => h) (fun o ho => ?_) hS0 ?_
  rotate_left
  · simp only [List.getElem?_toArray, List.getElem?_cons_zero, List.getElem?_cons_succ, Option.some.injEq] at ho
    subst ho
    refine Or.inl ⟨by rfl, fun w' hSw => ?_⟩
    obtain ⟨hSw0, hSw1, hSw2, hSw3, hSw4, hSw5, hSw6⟩ := hSw
    go_simp
    try with_reducible rfl
  try simp only [Act.put, List.setIfInBounds_toArray, List.set_cons_zero, List.set_cons_succ]
  refine till_at (i := 3) (d := some 67) (v := ?_) (by kernel_rfl) (by kernel_rfl) (by kernel_rfl) (by kernel_rfl) (by kernel_rfl) (fun _ _ _ h => h) (fun o ho => ?_) hS0 ?_
  rotate_left
  · simp only [List.getElem?_toArray, List.getElem?_cons_zero, List.getElem?_cons_succ, Option.some.injEq] at ho
    subst ho
    refine Or.inl ⟨by rfl, fun w' hSw => ?_⟩
    obtain ⟨hSw0, hSw1, hSw2, hSw3, hSw4, hSw5, hSw6⟩ := hSw
    go_simp
    try with_reducible rfl
  try simp only [Act.put, List.setIfInBounds_toArray, List.set_cons_zero, List.set_cons_succ]
  refine till_at (i := 4) (d := some 68) (v := ?_) (by kernel_rfl) (by kernel_rfl) (by kernel_rfl) (by kernel_rfl) (by kernel_rfl) (fun _ _ _ h => h) (fun o ho => ?_) hS0 ?_
  rotate_left
  · simp only [List.getElem?_toArray, List.getElem?_cons_zero, List.getElem?_cons_succ, Option.some.injEq] at ho
    subst ho
    refine Or.inl ⟨by rfl, fun w' hSw => ?_⟩
    obtain ⟨hSw0, hSw1, hSw2, hSw3, hSw4, hSw5, hSw6⟩ := hSw
    go_simp
    try with_reducible rfl
  try simp only [Act.put, List.setIfInBounds_toArray, List.set_cons_zero, List.set_cons_succ]
  refine till_at (i := 5) (d := some 69) (v := ?_) (by kernel_rfl) (by kernel_rfl) (by kernel_rfl) (by kernel_rfl) (by kernel_rfl) (fun _ _ _ h => h) (fun o ho => ?_) hS0 ?_
  rotate_left
  · simp only [List.getElem?_toArray, List.getElem?_cons_zero, List.getElem?_cons_succ, Option.some.injEq] at ho
    subst ho
    refine Or.inl ⟨by rfl, fun w' hSw => ?_⟩
    obtain ⟨hSw0, hSw1, hSw2, hSw3, hSw4, hSw5, hSw6⟩ := hSw
    go_simp
    try with_reducible rfl
  try simp only [Act.put, List.setIfInBounds_toArray, List.set_cons_zero, List.set_cons_succ]
  refine till_at (i := 6) (d := some 70) (v := ?_) (by kernel_rfl) (by kernel_rfl) (by kernel_rfl) (by kernel_rfl) (by kernel_rfl) (fun _ _ _ h => h) (fun o ho => ?_) hS0 ?_
  rotate_left
  · simp only [List.getElem?_toArray, List.getElem?_cons_zero, List.getElem?_cons_succ, Option.some.injEq] at ho
    subst ho
    refine Or.inl ⟨by rfl, fun w' hSw => ?_⟩
    obtain ⟨hSw0, hSw1, hSw2, hSw3, hSw4, hSw5, hSw6⟩ := hSw
    go_simp
    try with_reducible rfl
  try simp only [Act.put, List.setIfInBounds_toArray, List.set_cons_zero, List.set_cons_succ]
  refine till_at (i := 7) (d := some 71) (v := ?_) (by kernel_rfl) (by kernel_rfl) (by kernel_rfl) (by kernel_rfl) (by kernel_rfl) (fun _ _ _ h => h) (fun o ho => ?_) hS0 ?_
  rotate_left
  · simp only [List.getElem?_toArray, List.getElem?_cons_zero, List.getElem?_cons_succ, Option.some.injEq] at ho
    subst ho
    refine Or.inl ⟨by rfl, fun w' hSw => ?_⟩
    obtain ⟨hSw0, hSw1, hSw2, hSw3, hSw4, hSw5, hSw6⟩ := hSw
    go_simp
    try with_reducible rfl
  try simp only [Act.put, List.setIfInBounds_toArray, List.set_cons_zero, List.set_cons_succ]
  refine till_at (i := 8) (d := some 72) (v := ?_) (by kernel_rfl) (by kernel_rfl) (by kernel_rfl) (by kernel_rfl) (by kernel_rfl) (fun _ _ _ h => h) (fun o ho => ?_) hS0 ?_
  rotate_left
  · simp only [List.getElem?_toArray, List.getElem?_cons_zero, List.getElem?_cons_succ, Option.some.injEq] at ho
    subst ho
    refine Or.inl ⟨by rfl, fun w' hSw => ?_⟩
    obtain ⟨hSw0, hSw1, hSw2, hSw3, hSw4, hSw5, hSw6⟩ := hSw
    go_simp
    try with_reducible rfl
  try simp only [Act.put, List.setIfInBounds_toArray, List.set_cons_zero, List.set_cons_succ]
  refine till_at (i := 9) (d := some 73) (v := ?_) (by kernel_rfl) (by kernel_rfl) (by kernel_rfl) (by kernel_rfl) (by kernel_rfl) (fun _ _ _ h => h) (fun o ho => ?_) hS0 ?_
  rotate_left
  · simp only [List.getElem?_toArray, List.getElem?_cons_zero, List.getElem?_cons_succ, Option.some.injEq] at ho
    subst ho
    refine Or.inl ⟨by rfl, fun w' hSw => ?_⟩
    obtain ⟨hSw0, hSw1, hSw2, hSw3, hSw4, hSw5, hSw6⟩ := hSw
    go_simp
    try with_reducible rfl
  try simp only [Act.put, List.setIfInBounds_toArray, List.set_cons_zero, List.set_cons_succ]
  refine till_at (i := 10) (d := some 74) (v := ?_) (by kernel_rfl) (by kernel_rfl) (by kernel_rfl) (by kernel_rfl) (by kernel_rfl) (fun _ _ _ h => h) (fun o ho => ?_) hS0 ?_
  rotate_left
  · simp only [List.getElem?_toArray, List.getElem?_cons_zero, List.getElem?_cons_succ, Option.some.injEq] at ho
    subst ho
    refine Or.inl ⟨by rfl, fun w' hSw => ?_⟩
    obtain ⟨hSw0, hSw1, hSw2, hSw3, hSw4, hSw5, hSw6⟩ := hSw
    go_simp
    try with_reducible rfl
  try simp only [Act.put, List.setIfInBounds_toArray, List.set_cons_zero, List.set_cons_succ]
  refine till_at (i := 11) (d := some 75) (v := ?_) (by kernel_rfl) (by kernel_rfl) (by kernel_rfl) (by kernel_rfl) (by kernel_rfl) (fun _ _ _ h => h) (fun o ho => ?_) hS0 ?_
  rotate_left
  · simp only [List.getElem?_toArray, List.getElem?_cons_zero, List.getElem?_cons_succ, Option.some.injEq] at ho
    subst ho
    refine Or.inl ⟨by rfl, fun w' hSw => ?_⟩
    obtain ⟨hSw0, hSw1, hSw2, hSw3, hSw4, hSw5, hSw6⟩ := hSw
    go_simp
    try with_reducible rfl
  try simp only [Act.put, List.setIfInBounds_toArray, List.set_cons_zero, List.set_cons_succ]
  refine till_at (i := 12) (d := some 76) (v := ?_) (by kernel_rfl) (by kernel_rfl) (by kernel_rfl) (by kernel_rfl) (by kernel_rfl) (fun _ _ _ h => h) (fun o ho => ?_) hS0 ?_
  rotate_left
  · simp only [List.getElem?_toArray, List.getElem?_cons_zero, List.getElem?_cons_succ, Option.some.injEq] at ho
    subst ho
    refine Or.inl ⟨by rfl, fun w' hSw => ?_⟩
    obtain ⟨hSw0, hSw1, hSw2, hSw3, hSw4, hSw5, hSw6⟩ := hSw
    go_simp
    try with_reducible rfl
  try simp only [Act.put, List.setIfInBounds_toArray, List.set_cons_zero, List.set_cons_succ]
  refine till_at (i := 13) (d := some 77) (v := ?_) (by kernel_rfl) (by kernel_rfl) (by kernel_rfl) (by kernel_rfl) (by kernel_rfl) (fun _ _ _ h => h) (fun o ho => ?_) hS0 ?_
  rotate_left
  · simp only [List.getElem?_toArray, List.getElem?_cons_zero, List.getElem?_cons_succ, Option.some.injEq] at ho
    subst ho
    refine Or.inl ⟨by rfl, fun w' hSw => ?_⟩
    obtain ⟨hSw0, hSw1, hSw2, hSw3, hSw4, hSw5, hSw6⟩ := hSw
    go_simp
    try with_reducible rfl
  try simp only [Act.put, List.setIfInBounds_toArray, List.set_cons_zero, List.set_cons_succ]
  refine till_at (i := 14) (d := some 78) (v := ?_) (by kernel_rfl) (by kernel_rfl) (by kernel_rfl) (by kernel_rfl) (by kernel_rfl) (fun _ _ _ h => h) (fun o ho => ?_) hS0 ?_
  rotate_left
  · simp only [List.getElem?_toArray, List.getElem?_cons_zero, List.getElem?_cons_succ, Option.some.injEq] at ho
    subst ho
    refine Or.inl ⟨by rfl, fun w' hSw => ?_⟩
    obtain ⟨hSw0, hSw1, hSw2, hSw3, hSw4, hSw5, hSw6⟩ := hSw
    go_simp
    try with_reducible rfl
  try simp only [Act.put, List.setIfInBounds_toArray, List.set_cons_zero, List.set_cons_succ]
  refine till_at (i := 15) (d := some 79) (v := ?_) (by kernel_rfl) (by kernel_rfl) (by kernel_rfl) (by kernel_rfl) (by kernel_rfl) (fun _ _ _ h => h) (fun o ho => ?_) hS0 ?_
  rotate_left
  · simp only [List.getElem?_toArray, List.getElem?_cons_zero, List.getElem?_cons_succ, Option.some.injEq] at ho
    subst ho
    refine Or.inl ⟨by rfl, fun w' hSw => ?_⟩
    obtain ⟨hSw0, hSw1, hSw2, hSw3, hSw4, hSw5, hSw6⟩ := hSw
    go_simp
    try with_reducible rfl
  try simp only [Act.put, List.setIfInBounds_toArray, List.set_cons_zero, List.set_cons_succ]
  refine till_at (i := 16) (d := some 80) (v := ?_) (by kernel_rfl) (by kernel_rfl) (by kernel_rfl) (by kernel_rfl) (by kernel_rfl) (fun _ _ _ h => h) (fun o ho => ?_) hS0 ?_
  rotate_left
  · simp only [List.getElem?_toArray, List.getElem?_cons_zero, List.getElem?_cons_succ, Option.some.injEq] at ho
    subst ho
    refine Or.inl ⟨by rfl, fun w' hSw => ?_⟩
    obtain ⟨hSw0, hSw1, hSw2, hSw3, hSw4, hSw5, hSw6⟩ := hSw
    go_simp
    try with_reducible rfl
  try simp only [Act.put, List.setIfInBounds_toArray, List.set_cons_zero, List.set_cons_succ]
  refine till_at (i := 17) (d := some 81) (v := ?_) (by kernel_rfl) (by kernel_rfl) (by kernel_rfl) (by kernel_rfl) (by kernel_rfl) (fun _ _ _ h => h) (fun o ho => ?_) hS0 ?_
  rotate_left
  · simp only [List.getElem?_toArray, List.getElem?_cons_zero, List.getElem?_cons_succ, Option.some.injEq] at ho
    subst ho
    refine Or.inl ⟨by rfl, fun w' hSw => ?_⟩
    obtain ⟨hSw0, hSw1, hSw2, hSw3, hSw4, hSw5, hSw6⟩ := hSw
    go_simp
    try with_reducible rfl
  try simp only [Act.put, List.setIfInBounds_toArray, List.set_cons_zero, List.set_cons_succ]
  refine till_at (i := 18) (d := some 82) (v := ?_) (by kernel_rfl) (by kernel_rfl) (by kernel_rfl) (by kernel_rfl) (by kernel_rfl) (fun _ _ _ h => h) (fun o ho => ?_) hS0 ?_
  rotate_left
  · simp only [List.getElem?_toArray, List.getElem?_cons_zero, List.getElem?_cons_succ, Option.some.injEq] at ho
    subst ho
    refine Or.inl ⟨by rfl, fun w' hSw => ?_⟩
    obtain ⟨hSw0, hSw1, hSw2, hSw3, hSw4, hSw5, hSw6⟩ := hSw
    go_simp
    try with_reducible rfl
  try simp only [Act.put, List.setIfInBounds_toArray, List.set_cons_zero, List.set_cons_succ]
  refine till_at (i := 19) (d := some 83) (v := ?_) (by kernel_rfl) (by kernel_rfl) (by kernel_rfl) (by kernel_rfl) (by kernel_rfl) (fun _ _ _ h => h) (fun o ho => ?_) hS0 ?_
  rotate_left
  · simp only [List.getElem?_toArray, List.getElem?_cons_zero, List.getElem?_cons_succ, Option.some.injEq] at ho
    subst ho
    refine Or.inl ⟨by rfl, fun w' hSw => ?_⟩
    obtain ⟨hSw0, hSw1, hSw2, hSw3, hSw4, hSw5, hSw6⟩ := hSw
    go_simp
    try with_reducible rfl
  try simp only [Act.put, List.setIfInBounds_toArray, List.set_cons_zero, List.set_cons_succ]
  refine till_at (i := 20) (d := some 84) (v := ?_) (by kernel_rfl) (by kernel_rfl) (by kernel_rfl) (by kernel_rfl) (by kernel_rfl) (fun _ _ _ h => h) (fun o ho => ?_) hS0 ?_
  rotate_left
  · simp only [List.getElem?_toArray, List.getElem?_cons_zero, List.getElem?_cons_succ, Option.some.injEq] at ho
    subst ho
    refine Or.inl ⟨by rfl, fun w' hSw => ?_⟩
    obtain ⟨hSw0, hSw1, hSw2, hSw3, hSw4, hSw5, hSw6⟩ := hSw
    go_simp
    try with_reducible rfl
  try simp only [Act.put, List.setIfInBounds_toArray, List.set_cons_zero, List.set_cons_succ]
  refine till_step (i := 21) (by kernel_rfl) (by kernel_rfl) (fun o ho K' hK => ?_)
  simp only [List.getElem?_toArray, List.getElem?_cons_zero, List.getElem?_cons_succ, Option.some.injEq] at ho
  subst ho
  go_simp
  have hS21 := (show (wt2.drew.alloc (.cells #[.int .i64 y0, .int .i64 y1, .int .i64 y2, .int .i64 y3, .int .i64 y4, .int .i64 y5] 31)).cell? ⟨w.heap.size + 1, 5, none⟩ = some hv ∧ (wt2.drew.alloc (.cells #[.int .i64 y0, .int .i64 y1, .int .i64 y2, .int .i64 y3, .int .i64 y4, .int .i64 y5] 31)).cell? ⟨nb, 0, none⟩ = some (.int .i64 y0) ∧ (wt2.drew.alloc (.cells #[.int .i64 y0, .int .i64 y1, .int .i64 y2, .int .i64 y3, .int .i64 y4, .int .i64 y5] 31)).cell? ⟨nb, 1, none⟩ = some (.int .i64 y1) ∧ (wt2.drew.alloc (.cells #[.int .i64 y0, .int .i64 y1, .int .i64 y2, .int .i64 y3, .int .i64 y4, .int .i64 y5] 31)).cell? ⟨nb, 2, none⟩ = some (.int .i64 y2) ∧ (wt2.drew.alloc (.cells #[.int .i64 y0, .int .i64 y1, .int .i64 y2, .int .i64 y3, .int .i64 y4, .int .i64 y5] 31)).cell? ⟨nb, 3, none⟩ = some (.int .i64 y3) ∧ (wt2.drew.alloc (.cells #[.int .i64 y0, .int .i64 y1, .int .i64 y2, .int .i64 y3, .int .i64 y4, .int .i64 y5] 31)).cell? ⟨nb, 4, none⟩ = some (.int .i64 y4) ∧ (wt2.drew.alloc (.cells #[.int .i64 y0, .int .i64 y1, .int .i64 y2, .int .i64 y3, .int .i64 y4, .int .i64 y5] 31)).cell? ⟨nb, 5, none⟩ = some (.int .i64 y5) from ⟨hal6.cell g6, hal6.cell g0, hal6.cell g1, hal6.cell g2, hal6.cell g3, hal6.cell g4, hal6.cell g5⟩)
  refine hK.out _ _ (fun _ => hS21) (fun _ => ?_)
  clear hK K'
  try simp only [Act.put, List.setIfInBounds_toArray, List.set_cons_zero, List.set_cons_succ]
  refine till_step (i := 22) (by kernel_rfl) (by kernel_rfl) (fun o ho K' hK => ?_)
  simp only [List.getElem?_toArray, List.getElem?_cons_zero, List.getElem?_cons_succ, Option.some.injEq] at ho
  subst ho
  refine step_push_at E_houses (by rfl) _ _ (by rfl) (w1.heap.size) (by rfl) (owns_ext HO.out hy.drew) (by rfl) (by rfl) (by rfl) (by simp [Value.oneCell']) ?_ HSZ.out.1 HSZ.out.2 hz6
  intro g cap w9 hown9 hg9 hloc9
  have hlo9 := fun k hk => owns_block HO.out k hk
  have ht9 : Touch (· = w.heap.size + 1) w1 w9 := Touch.of_new (N := fun k => k = w.heap.size + 1 ∨ w1.heap.size ≤ k) (((HTT.out.trans (Touch.of_ext ((hy.drew).alloc (.cells #[.int .i64 y0, .int .i64 y1, .int .i64 y2, .int .i64 y3, .int .i64 y4, .int .i64 y5] 31)))).mono (fun k h => Or.inl h)).trans (Touch.grown hg9 (fun k hk => Or.inr (hlo9 k hk)))) (fun k h hk => h.elim id (fun h => by omega))
  have hlt9 := (Array.getElem?_eq_some_iff.1 HB6.out).1
  have hrb9 := (hg9.block (w.heap.size + 1) (by rw [World.size_alloc]; exact Nat.lt_succ_of_lt hlt9) (fun e => by have := hlo9 _ e.symm; omega)).trans ((((Ext.refl wt2).drew.alloc (.cells #[.int .i64 y0, .int .i64 y1, .int .i64 y2, .int .i64 y3, .int .i64 y4, .int .i64 y5] 31)).block hlt9).trans HB6.out)
  have hv9 := (owns_ext HV9.out (((Ext.refl wt2).drew).alloc (.cells #[.int .i64 y0, .int .i64 y1, .int .i64 y2, .int .i64 y3, .int .i64 y4, .int .i64 y5] 31))).kept hg9 (.inr (fun e => by have := HHV.out nb e.symm; omega))
  have hyc := cells_six hv9
  have hrow9 : g ≠ w.heap.size + 1 := fun e => by have := (World.ownsRow.lt hown9 g rfl).1; omega
  have HB9 := Lib.hid (And.intro hown9 (And.intro hrb9 (And.intro ht9 hrow9)))
  have h59 := (box_cell5 hrb9).1
  have f59 := (box_cell5 hrb9).2
  clear hown9 hg9 hloc9 hlo9 hrb9 hlt9 hv9 hrow9 ht9
  have hS22 := (show w9.cell? ⟨w.heap.size + 1, 5, none⟩ = some hv ∧ w9.cell? ⟨nb, 0, none⟩ = some (.int .i64 y0) ∧ w9.cell? ⟨nb, 1, none⟩ = some (.int .i64 y1) ∧ w9.cell? ⟨nb, 2, none⟩ = some (.int .i64 y2) ∧ w9.cell? ⟨nb, 3, none⟩ = some (.int .i64 y3) ∧ w9.cell? ⟨nb, 4, none⟩ = some (.int .i64 y4) ∧ w9.cell? ⟨nb, 5, none⟩ = some (.int .i64 y5) from ⟨h59, hyc⟩)
  refine hK.out _ _ (fun _ => hS22) (fun _ => ?_)
  clear hK K'
  try simp only [Act.put, List.setIfInBounds_toArray, List.set_cons_zero, List.set_cons_succ]
  refine till_at (i := 23) (d := some 87) (v := ?_) (by kernel_rfl) (by kernel_rfl) (by kernel_rfl) (by kernel_rfl) (by kernel_rfl) (fun _ _ _ h => h) (fun o ho => ?_) hS22 ?_
  rotate_left
  · simp only [List.getElem?_toArray, List.getElem?_cons_zero, List.getElem?_cons_succ, Option.some.injEq] at ho
    subst ho
    refine Or.inl ⟨by rfl, fun w' hSw => ?_⟩
    obtain ⟨hSw0, hSw1, hSw2, hSw3, hSw4, hSw5, hSw6⟩ := hSw
    go_simp
    try with_reducible rfl
  try simp only [Act.put, List.setIfInBounds_toArray, List.set_cons_zero, List.set_cons_succ]
  refine till_step (i := 24) (by kernel_rfl) (by kernel_rfl) (fun o ho K' hK => ?_)
  simp only [List.getElem?_toArray, List.getElem?_cons_zero, List.getElem?_cons_succ, Option.some.injEq] at ho
  subst ho
  go_simp
  refine hK.out _ _ (fun h => absurd rfl h) (fun _ => ?_)
  clear hK K'
  try simp only [Act.put, List.setIfInBounds_toArray, List.set_cons_zero, List.set_cons_succ]
  refine till_done (by kernel_rfl) ?_ _
  refine NoPanic.normal ?_
  try simp only [Act.put, List.setIfInBounds_toArray, List.set_cons_zero, List.set_cons_succ]
  have hoF := HOE.out _ _ (ownsRow_setCell_other HB9.out.1 (a := ⟨w.heap.size + 1, 5, none⟩) (by simp [Value.ownBlock]; exact HB9.out.2.2.2) (.slice (some ⟨g, 0, none⟩) (r.houses.length + 1) cap))
  have HFF := Lib.hid (And.intro hoF (And.intro (setCell_block (i := 5) (v := .slice (some ⟨g, 0, none⟩) (r.houses.length + 1) cap) HB9.out.2.1) (HB9.out.2.2.1.trans (Touch.setCell (M := (· = w.heap.size + 1)) (a := ⟨w.heap.size + 1, 5, none⟩) (.slice (some ⟨g, 0, none⟩) (r.houses.length + 1) cap) rfl))))
  clear hoF h59 f59 hyc hS0 hS21 hS22
  go_wp2
  exact HRR.out _ _ _ _ _ _ _ _ _ _ _ _ _ _ _ _ _ _ _ _ _ _ _ _ _ _ _ _ _ _ _ _ _ _ _ _ _ _ _ _ _ _ _ _ _ _ _ _ _ _ _ _ _ _ _ _ _ _ _ _ _ _ _ _ _ _ _ _ _ _ _ _ _ _ _ _ _ _ _ _ _ _ _ _ _ _ _ _ _ _ _ _ _ _ _ _ _ _ _ _ _ _ _ _ _ _ _ ⟨HF.out, HFF.out.1, HFF.out.2.1, HFF.out.2.2⟩
set_option maxRecDepth 1000000 in
set_option maxHeartbeats 64000000 in
theorem rreadl_all {K : Act → World → Prop} (s : List UInt8) (w w1 : World) (b L cap : Nat) (h : RReadAt s w w1 b L cap) (u1 u7 u8 u9 u10 u11 u12 u13 u14 u15 u16 u17 u18 u19 u20 u21 u22 u23 u24 u25 u26 u27 u28 u29 u30 u31 u32 u33 u34 u35 u36 u37 u38 u39 u40 u41 u42 u43 u44 u45 u46 u47 u48 u49 u50 u51 u52 u53 u54 u55 u56 u57 u58 u59 u60 u61 u62 u63 u64 u65 u66 u67 u68 u69 u70 u71 u72 u73 u74 u75 u76 u77 u78 u79 u80 u81 u82 u83 u84 u85 u86 u87 u88 u89 u90 u91 u92 u93 u94 u95 u96 u97 u98 u99 u100 u101 u102 u103 u104 u105 u106 u107 u108 u109 : Value) (R : Act → World → Prop) (wr : World) (i : Nat) (r : Round) (hv : Value) (hlt : i + 2 < L) (hrel : RRel s w w1 i r hv wr) (q0 : toldOk wRound 2 (lineAt s i) = false) (q1 : toldOk wWeigh 4 (lineAt s i) = false) (q2 : toldOk wHouse 6 (lineAt s i) = false) (q3 : toldOk wAll 2 (lineAt s i) = true) (hR : ∀ (y1 y7 y8 y9 y10 y11 y12 y13 y14 y15 y16 y17 y18 y19 y20 y21 y22 y23 y24 y25 y26 y27 y28 y29 y30 y31 y32 y33 y34 y35 y36 y37 y38 y39 y40 y41 y42 y43 y44 y45 y46 y47 y48 y49 y50 y51 y52 y53 y54 y55 y56 y57 y58 y59 y60 y61 y62 y63 y64 y65 y66 y67 y68 y69 y70 y71 y72 y73 y74 y75 y76 y77 y78 y79 y80 y81 y82 y83 y84 y85 y86 y87 y88 y89 y90 y91 y92 y93 y94 y95 y96 y97 y98 y99 y100 y101 y102 y103 y104 y105 y106 y107 y108 y109 : Value) (r' : Round) (hv' : Value) (wr' : World), RRel s w w1 (i + 1) r' hv' wr' → R ⟨#[strV s, y1, .pointer (some ⟨w.heap.size, 0, none⟩), .bool false, .pointer (some ⟨w.heap.size + 1, 0, none⟩), .slice (some ⟨b, 0, none⟩) L cap, .int .i64 ((i : Int) + 1), y7, y8, y9, y10, y11, y12, y13, y14, y15, y16, y17, y18, y19, y20, y21, y22, y23, y24, y25, y26, y27, y28, y29, y30, y31, y32, y33, y34, y35, y36, y37, y38, y39, y40, y41, y42, y43, y44, y45, y46, y47, y48, y49, y50, y51, y52, y53, y54, y55, y56, y57, y58, y59, y60, y61, y62, y63, y64, y65, y66, y67, y68, y69, y70, y71, y72, y73, y74, y75, y76, y77, y78, y79, y80, y81, y82, y83, y84, y85, y86, y87, y88, y89, y90, y91, y92, y93, y94, y95, y96, y97, y98, y99, y100, y101, y102, y103, y104, y105, y106, y107, y108, y109], []⟩ wr') : Code.wp Tryz.prog rreadBody (Exit.then R (Exit.inBlock 0 (Exit.then K (bodyPost Tryz.prog Tryz.f22 (RReadPost s w))))) ⟨#[strV s, u1, .pointer (some ⟨w.heap.size, 0, none⟩), .bool false, .pointer (some ⟨w.heap.size + 1, 0, none⟩), .slice (some ⟨b, 0, none⟩) L cap, .int .i64 (i : Int), u7, u8, u9, u10, u11, u12, u13, u14, u15, u16, u17, u18, u19, u20, u21, u22, u23, u24, u25, u26, u27, u28, u29, u30, u31, u32, u33, u34, u35, u36, u37, u38, u39, u40, u41, u42, u43, u44, u45, u46, u47, u48, u49, u50, u51, u52, u53, u54, u55, u56, u57, u58, u59, u60, u61, u62, u63, u64, u65, u66, u67, u68, u69, u70, u71, u72, u73, u74, u75, u76, u77, u78, u79, u80, u81, u82, u83, u84, u85, u86, u87, u88, u89, u90, u91, u92, u93, u94, u95, u96, u97, u98, u99, u100, u101, u102, u103, u104, u105, u106, u107, u108, u109], []⟩ wr := by
  obtain ⟨hs, hL, hL1, hL5, hx1, hst, hbb⟩ := h
  obtain ⟨hf, ho, hb, ht⟩ := hrel
  have hw2 : Ext w ((w.alloc (.cells #[.int .i64 0, .int .i64 0, .int .i64 0, .int .i64 0, .int .i64 0, .slice none 0 0, .int .i64 0, .int .i64 0] 26)).alloc (.cells #[.int .i64 0, .int .i64 0, .int .i64 0, .int .i64 0, .int .i64 0, .slice none 0 0, .int .i64 0, .int .i64 0] 26)) := ((Ext.refl w).alloc _).alloc _
  have hxw1 : Ext w w1 := hw2.trans hx1
  have hxw : Ext w wr := Touch.ext hxw1 ht (fun k hk => by have hk' : k = w.heap.size + 1 := hk; omega)
  have hz1 := hx1.size
  simp only [World.size_alloc] at hz1
  have hzr := ht.size
  have hli : (splitL 10 s)[i]? = some (lineAt s i) := lineAt_get (by omega)
  have z0 := ht.cell (strs_cell hst hli) (by simp only; omega)
  have hls := lineAt_short s i
  have E0 : IntKind.i64.wrap ((i : Int) + 2) = (i : Int) + 2 := IntWalk.i64_in _ (by omega)
  have x1 : decide ((i : Int) + 2 < (L : Int)) = true := by simp; omega
  have x2 : (i : Int) < (L : Int) := by omega
  have x3 : (0 : Int) ≤ (i : Int) := by omega
  have x4 : i < L := by omega
  obtain ⟨hl6, -, -⟩ := told_line q3
  obtain ⟨y6, y7, hyy⟩ := two_of hl6
  have HYY := Lib.hid hyy
  have HT0 := Lib.hid (fun w1 => rtold_any (lineAt s i) wRound 2 w1 (by omega) ⟨by omega, by omega⟩)
  have HQ0 := Lib.hid q0
  have tok0 : True := trivial
  have HT1 := Lib.hid (fun w1 => rtold_any (lineAt s i) wWeigh 4 w1 (by omega) ⟨by omega, by omega⟩)
  have HQ1 := Lib.hid q1
  have tok1 : True := trivial
  have HT2 := Lib.hid (fun w1 => rtold_any (lineAt s i) wHouse 6 w1 (by omega) ⟨by omega, by omega⟩)
  have HQ2 := Lib.hid q2
  have tok2 : True := trivial
  have HT3 := Lib.hid (fun w1 => rtold_any (lineAt s i) wAll 2 w1 (by omega) ⟨by omega, by omega⟩)
  have HQ3 := Lib.hid q3
  have tok3 : True := trivial
  have HST : Hid (rstep r (lineAt s i) = some { r with all := y6, off := y7 }) := by unfold Hid rstep; rw [if_neg (by rw [q0]; decide), if_neg (by rw [q1]; decide), if_neg (by rw [q2]; decide), if_pos q3, hyy]; rfl
  have HF : Hid (rfold s (i + 1) = some { r with all := y6, off := y7 }) := by unfold Hid; rw [rfold_succ hf]; exact HST.out
  have HRR := Lib.hid hR
  have HO := Lib.hid ho
  have HB := Lib.hid hb
  have HTT := Lib.hid ht
  have hltr := (Array.getElem?_eq_some_iff.1 hb).1
  have hmix : Tryz.prog.follows .mixedOrders = true := by kernel_rfl
  clear q0 q1 q2 q3 hyy hl6 hR hf ho hb ht hst hL hs hxw hxw1 hw2 hx1 HST
  conv => arg 2; whnf
  go_upto_region 17 with (first
    | (go_at_call 56; have _t := tok0; refine (HT0.out _).mono ?_; rintro e wt0 ⟨_, rfl, hxt0, -, hno0⟩; have hno0' := hno0 HQ0.out; subst hno0'; have hy0 := (Ext.refl wr).trans hxt0; have z0 := hxt0.cell z0; clear tok0 _t)
    | (go_at_call 56; have _t := tok1; refine (HT1.out _).mono ?_; rintro e wt1 ⟨_, rfl, hxt1, -, hno1⟩; have hno1' := hno1 HQ1.out; subst hno1'; have hy1 := hy0.trans hxt1; have z0 := hxt1.cell z0; clear tok1 _t)
    | (go_at_call 56; have _t := tok2; refine (HT2.out _).mono ?_; rintro e wt2 ⟨_, rfl, hxt2, -, hno2⟩; have hno2' := hno2 HQ2.out; subst hno2'; have hy2 := hy1.trans hxt2; have z0 := hxt2.cell z0; clear tok2 _t)
    | (go_at_call 56; have _t := tok3; refine (HT3.out _).mono ?_; rintro e wt3 ⟨vt, rfl, hxt3, hyes, -⟩; have hv9 := hyes HQ3.out; clear hyes; rw [HYY.out] at hv9; have hy3 := hy2.trans hxt3; have hy := hy3; clear tok3 _t; obtain ⟨nb, nc, hve9⟩ := owns_succ (show wt3.ownsRow _ 3 1 vt (1 + 1) _ from hv9); subst hve9; have g0 := hv9.cellAt 0 (by simp); have g1 := hv9.cellAt 1 (by simp); have HB6 := Lib.hid ((hy.block hltr).trans HB.out); have hnb := (World.ownsRow.lt hv9 nb rfl).1; clear hv9; simp only [List.map_cons, List.map_nil, List.getElem?_cons_zero, List.getElem?_cons_succ] at g0 g1))
  obtain ⟨⟨k6, f6⟩, k7, f7⟩ := box_cell67 HB6.out
  have hzt0 := hxt0.size
  have hzt1 := hxt1.size
  have hzt2 := hxt2.size
  have hne6 : ¬ nb = w.heap.size + 1 := by omega
  have HS0 : Hid ((fun w' : World => w'.cell? ⟨nb, 0, none⟩ = some (.int .i64 y6) ∧ w'.cell? ⟨nb, 1, none⟩ = some (.int .i64 y7)) wt3.drew) := ⟨g0, g1⟩
  have HSC : Hid (∀ W' j u, (fun w' : World => w'.cell? ⟨nb, 0, none⟩ = some (.int .i64 y6) ∧ w'.cell? ⟨nb, 1, none⟩ = some (.int .i64 y7)) W' → (fun w' : World => w'.cell? ⟨nb, 0, none⟩ = some (.int .i64 y6) ∧ w'.cell? ⟨nb, 1, none⟩ = some (.int .i64 y7)) (W'.setCell ⟨w.heap.size + 1, j, none⟩ u)) := fun W' j u ⟨h0, h1⟩ => ⟨by rw [World.cell?_setCell_far _ _ _ _ (fun e => hne6 e.symm)]; exact h0, by rw [World.cell?_setCell_far _ _ _ _ (fun e => hne6 e.symm)]; exact h1⟩
  clear g0 g1
  refine wp_region_held_drew (S := (fun w' : World => w'.cell? ⟨nb, 0, none⟩ = some (.int .i64 y6) ∧ w'.cell? ⟨nb, 1, none⟩ = some (.int .i64 y7))) (by kernel_rfl) ?_ (fun hHeld => ?_)
  · exact HS0.out
  refine held_take (i := 0) (d := some 96) (v := ?_) (by kernel_rfl) (by kernel_rfl) (by kernel_rfl) (by kernel_rfl) (fun _ _ _ h => h) (fun o ho => ?_) hHeld ?_
  rotate_left
  · simp only [List.getElem?_toArray, List.getElem?_cons_zero, Option.some.injEq] at ho
    subst ho
    refine ⟨by rfl, fun w hSw => ?_⟩
    (try dsimp only at hSw)
    go_simp
    try with_reducible rfl
  try simp only [Act.put, List.setIfInBounds_toArray, List.set_cons_zero, List.set_cons_succ]
  refine held_take (i := 1) (d := some 97) (v := ?_) (by kernel_rfl) (by kernel_rfl) (by kernel_rfl) (by kernel_rfl) (fun _ _ _ h => h) (fun o ho => ?_) hHeld ?_
  rotate_left
  · simp only [List.getElem?_toArray, List.getElem?_cons_zero, List.getElem?_cons_succ, Option.some.injEq] at ho
    subst ho
    refine ⟨by rfl, fun w hSw => ?_⟩
    (try dsimp only at hSw)
    go_simp
    try with_reducible rfl
  try simp only [Act.put, List.setIfInBounds_toArray, List.set_cons_zero, List.set_cons_succ]
  refine held_take (i := 2) (d := some 98) (v := ?_) (by kernel_rfl) (by kernel_rfl) (by kernel_rfl) (by kernel_rfl) (fun _ _ _ h => h) (fun o ho => ?_) hHeld ?_
  rotate_left
  · simp only [List.getElem?_toArray, List.getElem?_cons_zero, List.getElem?_cons_succ, Option.some.injEq] at ho
    subst ho
    refine ⟨by rfl, fun w hSw => ?_⟩
    (try dsimp only at hSw)
    go_simp
    try with_reducible rfl
  try simp only [Act.put, List.setIfInBounds_toArray, List.set_cons_zero, List.set_cons_succ]
  refine held_take (i := 3) (d := some 99) (v := ?_) (by kernel_rfl) (by kernel_rfl) (by kernel_rfl) (by kernel_rfl) (fun _ _ _ h => h) (fun o ho => ?_) hHeld ?_
  rotate_left
  · simp only [List.getElem?_toArray, List.getElem?_cons_zero, List.getElem?_cons_succ, Option.some.injEq] at ho
    subst ho
    refine ⟨by rfl, fun w hSw => ?_⟩
    (try dsimp only at hSw)
    go_simp
    try with_reducible rfl
  try simp only [Act.put, List.setIfInBounds_toArray, List.set_cons_zero, List.set_cons_succ]
  refine held_take (i := 4) (d := some 100) (v := ?_) (by kernel_rfl) (by kernel_rfl) (by kernel_rfl) (by kernel_rfl) (fun _ _ _ h => h) (fun o ho => ?_) hHeld ?_
  rotate_left
  · simp only [List.getElem?_toArray, List.getElem?_cons_zero, List.getElem?_cons_succ, Option.some.injEq] at ho
    subst ho
    refine ⟨by rfl, fun w hSw => ?_⟩
    (try dsimp only at hSw)
    go_simp
    try with_reducible rfl
  try simp only [Act.put, List.setIfInBounds_toArray, List.set_cons_zero, List.set_cons_succ]
  refine held_take (i := 5) (d := some 101) (v := ?_) (by kernel_rfl) (by kernel_rfl) (by kernel_rfl) (by kernel_rfl) (fun _ _ _ h => h) (fun o ho => ?_) hHeld ?_
  rotate_left
  · simp only [List.getElem?_toArray, List.getElem?_cons_zero, List.getElem?_cons_succ, Option.some.injEq] at ho
    subst ho
    refine ⟨by rfl, fun w hSw => ?_⟩
    (try dsimp only at hSw)
    go_simp
    try with_reducible rfl
  try simp only [Act.put, List.setIfInBounds_toArray, List.set_cons_zero, List.set_cons_succ]
  refine held_take (i := 6) (d := some 102) (v := ?_) (by kernel_rfl) (by kernel_rfl) (by kernel_rfl) (by kernel_rfl) (fun _ _ _ h => h) (fun o ho => ?_) hHeld ?_
  rotate_left
  · simp only [List.getElem?_toArray, List.getElem?_cons_zero, List.getElem?_cons_succ, Option.some.injEq] at ho
    subst ho
    refine ⟨by rfl, fun w hSw => ?_⟩
    (try dsimp only at hSw)
    go_simp
    try with_reducible rfl
  try simp only [Act.put, List.setIfInBounds_toArray, List.set_cons_zero, List.set_cons_succ]
  refine wpAnyH_ready (rs := [7]) (by kernel_rfl) (by simp) ?_
  refine held_step (i := 7) (by kernel_rfl) (fun o ho K' hK => ?_) ?_
  · simp only [List.getElem?_toArray, List.getElem?_cons_zero, List.getElem?_cons_succ, Option.some.injEq] at ho
    subst ho
    go_simp
    refine hK.out _ _ ?_ (fun hHeld => ?_)
    · exact (HSC.out _ _ _ HS0.out)
    clear hK K'
    try simp only [List.setIfInBounds_toArray, List.set_cons_zero, List.set_cons_succ]
    refine held_take (i := 8) (d := some 103) (v := ?_) (by kernel_rfl) (by kernel_rfl) (by kernel_rfl) (by kernel_rfl) (fun _ _ _ h => h) (fun o ho => ?_) hHeld ?_
    rotate_left
    · simp only [List.getElem?_toArray, List.getElem?_cons_zero, List.getElem?_cons_succ, Option.some.injEq] at ho
      subst ho
      refine ⟨by rfl, fun w hSw => ?_⟩
      (try dsimp only at hSw)
      go_simp
      try with_reducible rfl
    try simp only [Act.put, List.setIfInBounds_toArray, List.set_cons_zero, List.set_cons_succ]
    refine wpAnyH_ready (rs := [9]) (by kernel_rfl) (by simp) ?_
    refine held_step (i := 9) (by kernel_rfl) (fun o ho K' hK => ?_) ?_
    · simp only [List.getElem?_toArray, List.getElem?_cons_zero, List.getElem?_cons_succ, Option.some.injEq] at ho
      subst ho
      go_simp
      refine hK.out _ _ ?_ (fun hHeld => ?_)
      · exact (HSC.out _ _ _ (HSC.out _ _ _ HS0.out))
      clear hK K'
      try simp only [List.setIfInBounds_toArray, List.set_cons_zero, List.set_cons_succ]
      refine wpAnyH_done (by kernel_rfl) ?_ _
      try simp only [List.setIfInBounds_toArray, List.set_cons_zero, List.set_cons_succ]
      go_wp2
      exact HRR.out _ _ _ _ _ _ _ _ _ _ _ _ _ _ _ _ _ _ _ _ _ _ _ _ _ _ _ _ _ _ _ _ _ _ _ _ _ _ _ _ _ _ _ _ _ _ _ _ _ _ _ _ _ _ _ _ _ _ _ _ _ _ _ _ _ _ _ _ _ _ _ _ _ _ _ _ _ _ _ _ _ _ _ _ _ _ _ _ _ _ _ _ _ _ _ _ _ _ _ _ _ _ _ _ _ _ _ ⟨HF.out, ownsRow_setCell_other (ownsRow_setCell_other (owns_ext HO.out hy.drew) (fun e => by have := owns_block HO.out _ e; simp only at this; omega) _) (fun e => by have := owns_block HO.out _ e; simp only at this; omega) _, setCell_block (i := 7) (v := .int .i64 y7) (setCell_block (i := 6) (v := .int .i64 y6) HB6.out), ((HTT.out.trans (Touch.of_ext hy.drew)).trans (Touch.setCell (M := (· = w.heap.size + 1)) (a := ⟨w.heap.size + 1, 6, none⟩) _ rfl)).trans (Touch.setCell (M := (· = w.heap.size + 1)) (a := ⟨w.heap.size + 1, 7, none⟩) _ rfl)⟩
    exact AllReadyH.nil
  exact AllReadyH.nil
set_option maxRecDepth 1000000 in
set_option maxHeartbeats 64000000 in
theorem rreadl_step {K : Act → World → Prop} (s : List UInt8) (w w1 : World) (b L cap : Nat) (h : RReadAt s w w1 b L cap) (hK : ∀ a w', RReadX s w w1 b L cap a w' → K a w') (a : Act) (w' : World) (hI : RReadI s w w1 b L cap a w') : Code.wp Tryz.prog rreadBody (Exit.then (fun a' w'' => RReadI s w w1 b L cap a' w'' ∧ rreadMu L a' w'' < rreadMu L a w') (Exit.inBlock 0 (Exit.then K (bodyPost Tryz.prog Tryz.f22 (RReadPost s w))))) a w' := by
  unfold RReadI at hI
  obtain ⟨u6, hI⟩ := hI
  obtain ⟨u1, hI⟩ := hI
  obtain ⟨u7, hI⟩ := hI
  obtain ⟨u8, hI⟩ := hI
  obtain ⟨u9, hI⟩ := hI
  obtain ⟨u10, hI⟩ := hI
  obtain ⟨u11, hI⟩ := hI
  obtain ⟨u12, hI⟩ := hI
  obtain ⟨u13, hI⟩ := hI
  obtain ⟨u14, hI⟩ := hI
  obtain ⟨u15, hI⟩ := hI
  obtain ⟨u16, hI⟩ := hI
  obtain ⟨u17, hI⟩ := hI
  obtain ⟨u18, hI⟩ := hI
  obtain ⟨u19, hI⟩ := hI
  obtain ⟨u20, hI⟩ := hI
  obtain ⟨u21, hI⟩ := hI
  obtain ⟨u22, hI⟩ := hI
  obtain ⟨u23, hI⟩ := hI
  obtain ⟨u24, hI⟩ := hI
  obtain ⟨u25, hI⟩ := hI
  obtain ⟨u26, hI⟩ := hI
  obtain ⟨u27, hI⟩ := hI
  obtain ⟨u28, hI⟩ := hI
  obtain ⟨u29, hI⟩ := hI
  obtain ⟨u30, hI⟩ := hI
  obtain ⟨u31, hI⟩ := hI
  obtain ⟨u32, hI⟩ := hI
  obtain ⟨u33, hI⟩ := hI
  obtain ⟨u34, hI⟩ := hI
  obtain ⟨u35, hI⟩ := hI
  obtain ⟨u36, hI⟩ := hI
  obtain ⟨u37, hI⟩ := hI
  obtain ⟨u38, hI⟩ := hI
  obtain ⟨u39, hI⟩ := hI
  obtain ⟨u40, hI⟩ := hI
  obtain ⟨u41, hI⟩ := hI
  obtain ⟨u42, hI⟩ := hI
  obtain ⟨u43, hI⟩ := hI
  obtain ⟨u44, hI⟩ := hI
  obtain ⟨u45, hI⟩ := hI
  obtain ⟨u46, hI⟩ := hI
  obtain ⟨u47, hI⟩ := hI
  obtain ⟨u48, hI⟩ := hI
  obtain ⟨u49, hI⟩ := hI
  obtain ⟨u50, hI⟩ := hI
  obtain ⟨u51, hI⟩ := hI
  obtain ⟨u52, hI⟩ := hI
  obtain ⟨u53, hI⟩ := hI
  obtain ⟨u54, hI⟩ := hI
  obtain ⟨u55, hI⟩ := hI
  obtain ⟨u56, hI⟩ := hI
  obtain ⟨u57, hI⟩ := hI
  obtain ⟨u58, hI⟩ := hI
  obtain ⟨u59, hI⟩ := hI
  obtain ⟨u60, hI⟩ := hI
  obtain ⟨u61, hI⟩ := hI
  obtain ⟨u62, hI⟩ := hI
  obtain ⟨u63, hI⟩ := hI
  obtain ⟨u64, hI⟩ := hI
  obtain ⟨u65, hI⟩ := hI
  obtain ⟨u66, hI⟩ := hI
  obtain ⟨u67, hI⟩ := hI
  obtain ⟨u68, hI⟩ := hI
  obtain ⟨u69, hI⟩ := hI
  obtain ⟨u70, hI⟩ := hI
  obtain ⟨u71, hI⟩ := hI
  obtain ⟨u72, hI⟩ := hI
  obtain ⟨u73, hI⟩ := hI
  obtain ⟨u74, hI⟩ := hI
  obtain ⟨u75, hI⟩ := hI
  obtain ⟨u76, hI⟩ := hI
  obtain ⟨u77, hI⟩ := hI
  obtain ⟨u78, hI⟩ := hI
  obtain ⟨u79, hI⟩ := hI
  obtain ⟨u80, hI⟩ := hI
  obtain ⟨u81, hI⟩ := hI
  obtain ⟨u82, hI⟩ := hI
  obtain ⟨u83, hI⟩ := hI
  obtain ⟨u84, hI⟩ := hI
  obtain ⟨u85, hI⟩ := hI
  obtain ⟨u86, hI⟩ := hI
  obtain ⟨u87, hI⟩ := hI
  obtain ⟨u88, hI⟩ := hI
  obtain ⟨u89, hI⟩ := hI
  obtain ⟨u90, hI⟩ := hI
  obtain ⟨u91, hI⟩ := hI
  obtain ⟨u92, hI⟩ := hI
  obtain ⟨u93, hI⟩ := hI
  obtain ⟨u94, hI⟩ := hI
  obtain ⟨u95, hI⟩ := hI
  obtain ⟨u96, hI⟩ := hI
  obtain ⟨u97, hI⟩ := hI
  obtain ⟨u98, hI⟩ := hI
  obtain ⟨u99, hI⟩ := hI
  obtain ⟨u100, hI⟩ := hI
  obtain ⟨u101, hI⟩ := hI
  obtain ⟨u102, hI⟩ := hI
  obtain ⟨u103, hI⟩ := hI
  obtain ⟨u104, hI⟩ := hI
  obtain ⟨u105, hI⟩ := hI
  obtain ⟨u106, hI⟩ := hI
  obtain ⟨u107, hI⟩ := hI
  obtain ⟨u108, hI⟩ := hI
  obtain ⟨u109, hI⟩ := hI
  obtain ⟨⟨i, r, hv, hi, rfl, hrel⟩, rfl⟩ := hI
  have hL5 := h.hL5
  have hL1 := h.hL1
  by_cases hlt : i + 2 < L
  · have hR : ∀ (y1 y7 y8 y9 y10 y11 y12 y13 y14 y15 y16 y17 y18 y19 y20 y21 y22 y23 y24 y25 y26 y27 y28 y29 y30 y31 y32 y33 y34 y35 y36 y37 y38 y39 y40 y41 y42 y43 y44 y45 y46 y47 y48 y49 y50 y51 y52 y53 y54 y55 y56 y57 y58 y59 y60 y61 y62 y63 y64 y65 y66 y67 y68 y69 y70 y71 y72 y73 y74 y75 y76 y77 y78 y79 y80 y81 y82 y83 y84 y85 y86 y87 y88 y89 y90 y91 y92 y93 y94 y95 y96 y97 y98 y99 y100 y101 y102 y103 y104 y105 y106 y107 y108 y109 : Value) (r' : Round) (hv' : Value) (wr' : World), RRel s w w1 (i + 1) r' hv' wr' → (fun a' w'' => RReadI s w w1 b L cap a' w'' ∧ rreadMu L a' w'' < rreadMu L ⟨#[strV s, u1, .pointer (some ⟨w.heap.size, 0, none⟩), .bool false, .pointer (some ⟨w.heap.size + 1, 0, none⟩), .slice (some ⟨b, 0, none⟩) L cap, .int .i64 (i : Int), u7, u8, u9, u10, u11, u12, u13, u14, u15, u16, u17, u18, u19, u20, u21, u22, u23, u24, u25, u26, u27, u28, u29, u30, u31, u32, u33, u34, u35, u36, u37, u38, u39, u40, u41, u42, u43, u44, u45, u46, u47, u48, u49, u50, u51, u52, u53, u54, u55, u56, u57, u58, u59, u60, u61, u62, u63, u64, u65, u66, u67, u68, u69, u70, u71, u72, u73, u74, u75, u76, u77, u78, u79, u80, u81, u82, u83, u84, u85, u86, u87, u88, u89, u90, u91, u92, u93, u94, u95, u96, u97, u98, u99, u100, u101, u102, u103, u104, u105, u106, u107, u108, u109], []⟩ w') ⟨#[strV s, y1, .pointer (some ⟨w.heap.size, 0, none⟩), .bool false, .pointer (some ⟨w.heap.size + 1, 0, none⟩), .slice (some ⟨b, 0, none⟩) L cap, .int .i64 ((i : Int) + 1), y7, y8, y9, y10, y11, y12, y13, y14, y15, y16, y17, y18, y19, y20, y21, y22, y23, y24, y25, y26, y27, y28, y29, y30, y31, y32, y33, y34, y35, y36, y37, y38, y39, y40, y41, y42, y43, y44, y45, y46, y47, y48, y49, y50, y51, y52, y53, y54, y55, y56, y57, y58, y59, y60, y61, y62, y63, y64, y65, y66, y67, y68, y69, y70, y71, y72, y73, y74, y75, y76, y77, y78, y79, y80, y81, y82, y83, y84, y85, y86, y87, y88, y89, y90, y91, y92, y93, y94, y95, y96, y97, y98, y99, y100, y101, y102, y103, y104, y105, y106, y107, y108, y109], []⟩ wr' := fun y1 y7 y8 y9 y10 y11 y12 y13 y14 y15 y16 y17 y18 y19 y20 y21 y22 y23 y24 y25 y26 y27 y28 y29 y30 y31 y32 y33 y34 y35 y36 y37 y38 y39 y40 y41 y42 y43 y44 y45 y46 y47 y48 y49 y50 y51 y52 y53 y54 y55 y56 y57 y58 y59 y60 y61 y62 y63 y64 y65 y66 y67 y68 y69 y70 y71 y72 y73 y74 y75 y76 y77 y78 y79 y80 y81 y82 y83 y84 y85 y86 y87 y88 y89 y90 y91 y92 y93 y94 y95 y96 y97 y98 y99 y100 y101 y102 y103 y104 y105 y106 y107 y108 y109 r' hv' wr' hr => by
      refine ⟨?_, by simp [rreadMu, intOf]; omega⟩
      unfold RReadI
      exact ⟨.int .i64 ((i : Int) + 1), y1, y7, y8, y9, y10, y11, y12, y13, y14, y15, y16, y17, y18, y19, y20, y21, y22, y23, y24, y25, y26, y27, y28, y29, y30, y31, y32, y33, y34, y35, y36, y37, y38, y39, y40, y41, y42, y43, y44, y45, y46, y47, y48, y49, y50, y51, y52, y53, y54, y55, y56, y57, y58, y59, y60, y61, y62, y63, y64, y65, y66, y67, y68, y69, y70, y71, y72, y73, y74, y75, y76, y77, y78, y79, y80, y81, y82, y83, y84, y85, y86, y87, y88, y89, y90, y91, y92, y93, y94, y95, y96, y97, y98, y99, y100, y101, y102, y103, y104, y105, y106, y107, y108, y109, ⟨i + 1, r', hv', by omega, by simp, hr⟩, rfl⟩
    cases q0 : toldOk wRound 2 (lineAt s i) with
    | true => exact rreadl_round s w w1 b L cap h u1 u7 u8 u9 u10 u11 u12 u13 u14 u15 u16 u17 u18 u19 u20 u21 u22 u23 u24 u25 u26 u27 u28 u29 u30 u31 u32 u33 u34 u35 u36 u37 u38 u39 u40 u41 u42 u43 u44 u45 u46 u47 u48 u49 u50 u51 u52 u53 u54 u55 u56 u57 u58 u59 u60 u61 u62 u63 u64 u65 u66 u67 u68 u69 u70 u71 u72 u73 u74 u75 u76 u77 u78 u79 u80 u81 u82 u83 u84 u85 u86 u87 u88 u89 u90 u91 u92 u93 u94 u95 u96 u97 u98 u99 u100 u101 u102 u103 u104 u105 u106 u107 u108 u109 _ w' i r hv hlt hrel q0 hR
    | false =>
    cases q1 : toldOk wWeigh 4 (lineAt s i) with
    | true => exact rreadl_weigh s w w1 b L cap h u1 u7 u8 u9 u10 u11 u12 u13 u14 u15 u16 u17 u18 u19 u20 u21 u22 u23 u24 u25 u26 u27 u28 u29 u30 u31 u32 u33 u34 u35 u36 u37 u38 u39 u40 u41 u42 u43 u44 u45 u46 u47 u48 u49 u50 u51 u52 u53 u54 u55 u56 u57 u58 u59 u60 u61 u62 u63 u64 u65 u66 u67 u68 u69 u70 u71 u72 u73 u74 u75 u76 u77 u78 u79 u80 u81 u82 u83 u84 u85 u86 u87 u88 u89 u90 u91 u92 u93 u94 u95 u96 u97 u98 u99 u100 u101 u102 u103 u104 u105 u106 u107 u108 u109 _ w' i r hv hlt hrel q0 q1 hR
    | false =>
    cases q2 : toldOk wHouse 6 (lineAt s i) with
    | true => exact rreadl_house s w w1 b L cap h u1 u7 u8 u9 u10 u11 u12 u13 u14 u15 u16 u17 u18 u19 u20 u21 u22 u23 u24 u25 u26 u27 u28 u29 u30 u31 u32 u33 u34 u35 u36 u37 u38 u39 u40 u41 u42 u43 u44 u45 u46 u47 u48 u49 u50 u51 u52 u53 u54 u55 u56 u57 u58 u59 u60 u61 u62 u63 u64 u65 u66 u67 u68 u69 u70 u71 u72 u73 u74 u75 u76 u77 u78 u79 u80 u81 u82 u83 u84 u85 u86 u87 u88 u89 u90 u91 u92 u93 u94 u95 u96 u97 u98 u99 u100 u101 u102 u103 u104 u105 u106 u107 u108 u109 _ w' i r hv hlt hrel q0 q1 q2 hR
    | false =>
    cases q3 : toldOk wAll 2 (lineAt s i) with
    | true => exact rreadl_all s w w1 b L cap h u1 u7 u8 u9 u10 u11 u12 u13 u14 u15 u16 u17 u18 u19 u20 u21 u22 u23 u24 u25 u26 u27 u28 u29 u30 u31 u32 u33 u34 u35 u36 u37 u38 u39 u40 u41 u42 u43 u44 u45 u46 u47 u48 u49 u50 u51 u52 u53 u54 u55 u56 u57 u58 u59 u60 u61 u62 u63 u64 u65 u66 u67 u68 u69 u70 u71 u72 u73 u74 u75 u76 u77 u78 u79 u80 u81 u82 u83 u84 u85 u86 u87 u88 u89 u90 u91 u92 u93 u94 u95 u96 u97 u98 u99 u100 u101 u102 u103 u104 u105 u106 u107 u108 u109 _ w' i r hv hlt hrel q0 q1 q2 q3 hR
    | false => exact rreadl_none s w w1 b L cap h u1 u7 u8 u9 u10 u11 u12 u13 u14 u15 u16 u17 u18 u19 u20 u21 u22 u23 u24 u25 u26 u27 u28 u29 u30 u31 u32 u33 u34 u35 u36 u37 u38 u39 u40 u41 u42 u43 u44 u45 u46 u47 u48 u49 u50 u51 u52 u53 u54 u55 u56 u57 u58 u59 u60 u61 u62 u63 u64 u65 u66 u67 u68 u69 u70 u71 u72 u73 u74 u75 u76 u77 u78 u79 u80 u81 u82 u83 u84 u85 u86 u87 u88 u89 u90 u91 u92 u93 u94 u95 u96 u97 u98 u99 u100 u101 u102 u103 u104 u105 u106 u107 u108 u109 _ w' i r hv hlt hrel q0 q1 q2 q3
  · have hie : i = L - 2 := by omega
    refine rreadl_exit s w w1 b L cap h u1 u7 u8 u9 u10 u11 u12 u13 u14 u15 u16 u17 u18 u19 u20 u21 u22 u23 u24 u25 u26 u27 u28 u29 u30 u31 u32 u33 u34 u35 u36 u37 u38 u39 u40 u41 u42 u43 u44 u45 u46 u47 u48 u49 u50 u51 u52 u53 u54 u55 u56 u57 u58 u59 u60 u61 u62 u63 u64 u65 u66 u67 u68 u69 u70 u71 u72 u73 u74 u75 u76 u77 u78 u79 u80 u81 u82 u83 u84 u85 u86 u87 u88 u89 u90 u91 u92 u93 u94 u95 u96 u97 u98 u99 u100 u101 u102 u103 u104 u105 u106 u107 u108 u109 _ w' i (by omega) (by omega) (hK _ _ ?_)
    rw [hie] at hrel
    unfold RReadX
    exact ⟨_, _, _, _, _, _, _, _, _, _, _, _, _, _, _, _, _, _, _, _, _, _, _, _, _, _, _, _, _, _, _, _, _, _, _, _, _, _, _, _, _, _, _, _, _, _, _, _, _, _, _, _, _, _, _, _, _, _, _, _, _, _, _, _, _, _, _, _, _, _, _, _, _, _, _, _, _, _, _, _, _, _, _, _, _, _, _, _, _, _, _, _, _, _, _, _, _, _, _, _, _, _, _, _, _, r, hv, hrel, rfl⟩
set_option maxRecDepth 1000000 in
set_option maxHeartbeats 64000000 in
theorem rreadl_loop {K : Act → World → Prop} (s : List UInt8) (w w1 : World) (b L cap : Nat) (h : RReadAt s w w1 b L cap) (u6 u1 u7 u8 u9 u10 u11 u12 u13 u14 u15 u16 u17 u18 u19 u20 u21 u22 u23 u24 u25 u26 u27 u28 u29 u30 u31 u32 u33 u34 u35 u36 u37 u38 u39 u40 u41 u42 u43 u44 u45 u46 u47 u48 u49 u50 u51 u52 u53 u54 u55 u56 u57 u58 u59 u60 u61 u62 u63 u64 u65 u66 u67 u68 u69 u70 u71 u72 u73 u74 u75 u76 u77 u78 u79 u80 u81 u82 u83 u84 u85 u86 u87 u88 u89 u90 u91 u92 u93 u94 u95 u96 u97 u98 u99 u100 u101 u102 u103 u104 u105 u106 u107 u108 u109 : Value) (wr : World) (hrel : ∃ (i : Nat) (r : Round) (hv : Value), i ≤ L - 2 ∧ u6 = .int .i64 (i : Int) ∧ RRel s w w1 i r hv wr) (hK : ∀ a w', RReadX s w w1 b L cap a w' → K a w') : Code.wp Tryz.prog (Code.loop rreadBody) (Exit.inBlock 0 (Exit.then K (bodyPost Tryz.prog Tryz.f22 (RReadPost s w)))) ⟨#[strV s, u1, .pointer (some ⟨w.heap.size, 0, none⟩), .bool false, .pointer (some ⟨w.heap.size + 1, 0, none⟩), .slice (some ⟨b, 0, none⟩) L cap, u6, u7, u8, u9, u10, u11, u12, u13, u14, u15, u16, u17, u18, u19, u20, u21, u22, u23, u24, u25, u26, u27, u28, u29, u30, u31, u32, u33, u34, u35, u36, u37, u38, u39, u40, u41, u42, u43, u44, u45, u46, u47, u48, u49, u50, u51, u52, u53, u54, u55, u56, u57, u58, u59, u60, u61, u62, u63, u64, u65, u66, u67, u68, u69, u70, u71, u72, u73, u74, u75, u76, u77, u78, u79, u80, u81, u82, u83, u84, u85, u86, u87, u88, u89, u90, u91, u92, u93, u94, u95, u96, u97, u98, u99, u100, u101, u102, u103, u104, u105, u106, u107, u108, u109], []⟩ wr := by
  refine wp_loop (RReadI s w w1 b L cap) (rreadMu L) ?_ (fun a w' hI => rreadl_step s w w1 b L cap h hK a w' hI)
  unfold RReadI
  exact ⟨u6, u1, u7, u8, u9, u10, u11, u12, u13, u14, u15, u16, u17, u18, u19, u20, u21, u22, u23, u24, u25, u26, u27, u28, u29, u30, u31, u32, u33, u34, u35, u36, u37, u38, u39, u40, u41, u42, u43, u44, u45, u46, u47, u48, u49, u50, u51, u52, u53, u54, u55, u56, u57, u58, u59, u60, u61, u62, u63, u64, u65, u66, u67, u68, u69, u70, u71, u72, u73, u74, u75, u76, u77, u78, u79, u80, u81, u82, u83, u84, u85, u86, u87, u88, u89, u90, u91, u92, u93, u94, u95, u96, u97, u98, u99, u100, u101, u102, u103, u104, u105, u106, u107, u108, u109, hrel, rfl⟩
theorem owns_first {W : World} {base n : Nat} {v : Value} {xs : List Value} (h : W.ownsRow base 9 1 v n xs) (hn : 1 ≤ n) : ∃ g cap, v = .slice (some ⟨g, 0, none⟩) n cap ∧ base ≤ g := by
  obtain ⟨m, rfl⟩ : ∃ m, n = m + 1 := ⟨n - 1, by omega⟩
  obtain ⟨g, cap, rfl⟩ := owns_succ h
  exact ⟨g, cap, rfl, (World.ownsRow.lt h g rfl).1⟩
set_option maxRecDepth 1000000 in
set_option maxHeartbeats 64000000 in
theorem rread_any (s : List UInt8) (w : World) (hs : s.length ≤ 500) : Calls Tryz.prog 22 #[strV s] w (RReadPost s w) := by
  have hx0 : Ext w ((w.alloc (.cells #[.int .i64 0, .int .i64 0, .int .i64 0, .int .i64 0, .int .i64 0, .slice none 0 0, .int .i64 0, .int .i64 0] 26)).alloc (.cells #[.int .i64 0, .int .i64 0, .int .i64 0, .int .i64 0, .int .i64 0, .slice none 0 0, .int .i64 0, .int .i64 0] 26)) := ((Ext.refl w).alloc _).alloc _
  have HSP := Lib.hid (rsplit_any s 10 ((w.alloc (.cells #[.int .i64 0, .int .i64 0, .int .i64 0, .int .i64 0, .int .i64 0, .slice none 0 0, .int .i64 0, .int .i64 0] 26)).alloc (.cells #[.int .i64 0, .int .i64 0, .int .i64 0, .int .i64 0, .int .i64 0, .slice none 0 0, .int .i64 0, .int .i64 0] 26)) (by omega))
  have hHB1 := (two_new w (.cells #[.int .i64 0, .int .i64 0, .int .i64 0, .int .i64 0, .int .i64 0, .slice none 0 0, .int .i64 0, .int .i64 0] 26) (.cells #[.int .i64 0, .int .i64 0, .int .i64 0, .int .i64 0, .int .i64 0, .slice none 0 0, .int .i64 0, .int .i64 0] 26)).2
  have hHZ1 := (two_new w (.cells #[.int .i64 0, .int .i64 0, .int .i64 0, .int .i64 0, .int .i64 0, .slice none 0 0, .int .i64 0, .int .i64 0] 26) (.cells #[.int .i64 0, .int .i64 0, .int .i64 0, .int .i64 0, .int .i64 0, .slice none 0 0, .int .i64 0, .int .i64 0] 26)).1
  have HB1 := Lib.hid hHB1
  have HZ1 := Lib.hid hHZ1
  have hc := split_count 10 s
  have hL1 : 1 ≤ (splitL 10 s).length := List.length_pos_iff.2 (splitL_ne 10 s)
  obtain ⟨L, hL⟩ : ∃ L, (splitL 10 s).length = L := ⟨_, rfl⟩
  rw [hL] at HSP hL1 hc
  have HL := Lib.hid hL
  have HX0 := Lib.hid hx0
  have hmix : Tryz.prog.follows .mixedOrders = true := by kernel_rfl
  clear hx0 hHB1 hHZ1 hL
  go_enter Tryz.func22, Tryz.ntmps22
  go_wp2_with (go_at_call 55; refine HSP.out.mono ?_; rintro e w1 ⟨v, rfl, hx1, hown⟩; obtain ⟨b, cap, rfl, hbb⟩ := owns_first hown hL1; have HOW := Lib.hid hown; have HX1 := Lib.hid hx1; clear hown hx1)
  rename_i K hK
  have hctx : RReadAt s w w1 b L cap := ⟨hs, HL.out, hL1, by omega, HX1.out, by show RowAt _ _ _ _; rw [HL.out]; exact RowAt.of_owns HOW.out, by simpa using hbb⟩
  have hz1 := HX1.out.size
  simp only [World.size_alloc] at hz1
  refine rreadl_loop s w w1 b L cap hctx (.int .i64 0) _ _ _ _ _ _ _ _ _ _ _ _ _ _ _ _ _ _ _ _ _ _ _ _ _ _ _ _ _ _ _ _ _ _ _ _ _ _ _ _ _ _ _ _ _ _ _ _ _ _ _ _ _ _ _ _ _ _ _ _ _ _ _ _ _ _ _ _ _ _ _ _ _ _ _ _ _ _ _ _ _ _ _ _ _ _ _ _ _ _ _ _ _ _ _ _ _ _ _ _ _ _ _ _ w1 ⟨0, zeroR, .slice none 0 0, Nat.zero_le _, rfl, ⟨rfl, World.ownsRow_nil _ _ _ _, (HX1.out.block (by simp)).trans HB1.out, Touch.refl _ _⟩⟩ (fun a w' hX => ?_)
  unfold RReadX at hX
  obtain ⟨u6, hX⟩ := hX
  obtain ⟨u1, hX⟩ := hX
  obtain ⟨u7, hX⟩ := hX
  obtain ⟨u8, hX⟩ := hX
  obtain ⟨u9, hX⟩ := hX
  obtain ⟨u10, hX⟩ := hX
  obtain ⟨u11, hX⟩ := hX
  obtain ⟨u12, hX⟩ := hX
  obtain ⟨u13, hX⟩ := hX
  obtain ⟨u14, hX⟩ := hX
  obtain ⟨u15, hX⟩ := hX
  obtain ⟨u16, hX⟩ := hX
  obtain ⟨u17, hX⟩ := hX
  obtain ⟨u18, hX⟩ := hX
  obtain ⟨u19, hX⟩ := hX
  obtain ⟨u20, hX⟩ := hX
  obtain ⟨u21, hX⟩ := hX
  obtain ⟨u22, hX⟩ := hX
  obtain ⟨u23, hX⟩ := hX
  obtain ⟨u24, hX⟩ := hX
  obtain ⟨u25, hX⟩ := hX
  obtain ⟨u26, hX⟩ := hX
  obtain ⟨u27, hX⟩ := hX
  obtain ⟨u28, hX⟩ := hX
  obtain ⟨u29, hX⟩ := hX
  obtain ⟨u30, hX⟩ := hX
  obtain ⟨u31, hX⟩ := hX
  obtain ⟨u32, hX⟩ := hX
  obtain ⟨u33, hX⟩ := hX
  obtain ⟨u34, hX⟩ := hX
  obtain ⟨u35, hX⟩ := hX
  obtain ⟨u36, hX⟩ := hX
  obtain ⟨u37, hX⟩ := hX
  obtain ⟨u38, hX⟩ := hX
  obtain ⟨u39, hX⟩ := hX
  obtain ⟨u40, hX⟩ := hX
  obtain ⟨u41, hX⟩ := hX
  obtain ⟨u42, hX⟩ := hX
  obtain ⟨u43, hX⟩ := hX
  obtain ⟨u44, hX⟩ := hX
  obtain ⟨u45, hX⟩ := hX
  obtain ⟨u46, hX⟩ := hX
  obtain ⟨u47, hX⟩ := hX
  obtain ⟨u48, hX⟩ := hX
  obtain ⟨u49, hX⟩ := hX
  obtain ⟨u50, hX⟩ := hX
  obtain ⟨u51, hX⟩ := hX
  obtain ⟨u52, hX⟩ := hX
  obtain ⟨u53, hX⟩ := hX
  obtain ⟨u54, hX⟩ := hX
  obtain ⟨u55, hX⟩ := hX
  obtain ⟨u56, hX⟩ := hX
  obtain ⟨u57, hX⟩ := hX
  obtain ⟨u58, hX⟩ := hX
  obtain ⟨u59, hX⟩ := hX
  obtain ⟨u60, hX⟩ := hX
  obtain ⟨u61, hX⟩ := hX
  obtain ⟨u62, hX⟩ := hX
  obtain ⟨u63, hX⟩ := hX
  obtain ⟨u64, hX⟩ := hX
  obtain ⟨u65, hX⟩ := hX
  obtain ⟨u66, hX⟩ := hX
  obtain ⟨u67, hX⟩ := hX
  obtain ⟨u68, hX⟩ := hX
  obtain ⟨u69, hX⟩ := hX
  obtain ⟨u70, hX⟩ := hX
  obtain ⟨u71, hX⟩ := hX
  obtain ⟨u72, hX⟩ := hX
  obtain ⟨u73, hX⟩ := hX
  obtain ⟨u74, hX⟩ := hX
  obtain ⟨u75, hX⟩ := hX
  obtain ⟨u76, hX⟩ := hX
  obtain ⟨u77, hX⟩ := hX
  obtain ⟨u78, hX⟩ := hX
  obtain ⟨u79, hX⟩ := hX
  obtain ⟨u80, hX⟩ := hX
  obtain ⟨u81, hX⟩ := hX
  obtain ⟨u82, hX⟩ := hX
  obtain ⟨u83, hX⟩ := hX
  obtain ⟨u84, hX⟩ := hX
  obtain ⟨u85, hX⟩ := hX
  obtain ⟨u86, hX⟩ := hX
  obtain ⟨u87, hX⟩ := hX
  obtain ⟨u88, hX⟩ := hX
  obtain ⟨u89, hX⟩ := hX
  obtain ⟨u90, hX⟩ := hX
  obtain ⟨u91, hX⟩ := hX
  obtain ⟨u92, hX⟩ := hX
  obtain ⟨u93, hX⟩ := hX
  obtain ⟨u94, hX⟩ := hX
  obtain ⟨u95, hX⟩ := hX
  obtain ⟨u96, hX⟩ := hX
  obtain ⟨u97, hX⟩ := hX
  obtain ⟨u98, hX⟩ := hX
  obtain ⟨u99, hX⟩ := hX
  obtain ⟨u100, hX⟩ := hX
  obtain ⟨u101, hX⟩ := hX
  obtain ⟨u102, hX⟩ := hX
  obtain ⟨u103, hX⟩ := hX
  obtain ⟨u104, hX⟩ := hX
  obtain ⟨u105, hX⟩ := hX
  obtain ⟨u106, hX⟩ := hX
  obtain ⟨u107, hX⟩ := hX
  obtain ⟨u108, hX⟩ := hX
  obtain ⟨u109, hX⟩ := hX
  obtain ⟨r, hv, hrel, rfl⟩ := hX
  refine hK _ _ ?_
  clear hK
  obtain ⟨hf, ho, hb, ht⟩ := hrel
  obtain ⟨ha, hc, hvE⟩ : ∃ a c, hv = .slice a r.houses.length c := by
    obtain ⟨a, c, e, _⟩ := RowAt.of_owns ho
    exact ⟨a, c, e⟩
  subst hvE
  have hrr : rread s = some r := by unfold rread; rw [HL.out]; exact hf
  obtain ⟨hN, hn⟩ := rread_nums hs hrr
  have HRR := Lib.hid hrr
  have HTB := Lib.hid (textB_ofN hN hn)
  have HOO := Lib.hid (owns_ext ho (Ext.refl w').drew)
  have HBB := Lib.hid hb
  have hzz := ht.keep _ _ ((HX1.out.block (by simp only [World.size_alloc]; omega)).trans HZ1.out) (by omega)
  have HZ := Lib.hid hzz
  have hltz := (Array.getElem?_eq_some_iff.1 hzz).1
  have hltb := (Array.getElem?_eq_some_iff.1 hb).1
  have HXW : Hid (Ext w w'.drew) := (Touch.ext (HX0.out.trans HX1.out) ht (fun k hk => by have hk' : k = w.heap.size + 1 := hk; omega)).drew
  have HLW : Hid (∀ a n c, Value.slice ha r.houses.length hc = .slice (some a) n c → ¬ a.block = w.heap.size) := fun a n c e hm => by
    cases e
    have := hown_block ho
    omega
  have HPR := Lib.hid (rprint_any (.agg #[.int .i64 r.per, .int .i64 r.lo, .int .i64 r.hi, .int .i64 r.card, .int .i64 r.slack, .slice ha r.houses.length hc, .int .i64 r.all, .int .i64 r.off]) r w'.drew ⟨_, rfl, RowAt.of_owns HOO.out⟩ HTB.out)
  clear hf ho hb ht hrr hN hn hzz
  by_cases hq : textT r = s
  · have HQ : Hid (decide (textT r = s) = true) := decide_eq_true hq
    rw [hq] at HPR
    clear hq
    go_upto_region 19 with fail
    refine wp_region_held_drew (S := (fun w' : World => w'.heap[w.heap.size + 1]? = some (boxR8 r.per r.lo r.hi r.card r.slack (.slice ha r.houses.length hc) r.all r.off))) (by kernel_rfl) ?_ (fun hHeld => ?_)
    · exact HBB.out
    refine held_take (i := 0) (d := some 105) (v := ?_) (by kernel_rfl) (by kernel_rfl) (by kernel_rfl) (by kernel_rfl) (fun _ _ _ h => h) (fun o ho => ?_) hHeld ?_
    rotate_left
    · simp only [List.getElem?_toArray, List.getElem?_cons_zero, Option.some.injEq] at ho
      subst ho
      refine ⟨by rfl, fun w hSw => ?_⟩
      have hSw' := hSw
      obtain ⟨k0, k1, k2, k3, k4, k5, k6, k7⟩ := box_cells8 hSw'
      clear hSw hSw'
      go_simp
      try with_reducible rfl
    try simp only [Act.put, List.setIfInBounds_toArray, List.set_cons_zero, List.set_cons_succ]
    refine held_take (i := 1) (d := some 106) (v := ?_) (by kernel_rfl) (by kernel_rfl) (by kernel_rfl) (by kernel_rfl) (fun _ _ _ h => h) (fun o ho => ?_) hHeld ?_
    rotate_left
    · simp only [List.getElem?_toArray, List.getElem?_cons_zero, List.getElem?_cons_succ, Option.some.injEq] at ho
      subst ho
      refine ⟨by rfl, fun w hSw => ?_⟩
      have hSw' := hSw
      obtain ⟨k0, k1, k2, k3, k4, k5, k6, k7⟩ := box_cells8 hSw'
      clear hSw hSw'
      go_simp
      try with_reducible rfl
    try simp only [Act.put, List.setIfInBounds_toArray, List.set_cons_zero, List.set_cons_succ]
    refine held_take (i := 3) (d := some 108) (v := ?_) (by kernel_rfl) (by kernel_rfl) (by kernel_rfl) (by kernel_rfl) (fun _ _ _ h => h) (fun o ho => ?_) hHeld ?_
    rotate_left
    · simp only [List.getElem?_toArray, List.getElem?_cons_zero, List.getElem?_cons_succ, Option.some.injEq] at ho
      subst ho
      refine ⟨by rfl, fun w hSw => ?_⟩
      (try dsimp only at hSw)
      go_simp
      try with_reducible rfl
    try simp only [Act.put, List.setIfInBounds_toArray, List.set_cons_zero, List.set_cons_succ]
    refine wpAnyH_ready (rs := [2]) (by kernel_rfl) (by simp) ?_
    refine held_step (i := 2) (by kernel_rfl) (fun o ho K' hK => ?_) ?_
    · simp only [List.getElem?_toArray, List.getElem?_cons_zero, List.getElem?_cons_succ, Option.some.injEq] at ho
      subst ho
      go_simp
      go_at_call 20
      refine HPR.out.mono ?_
      rintro e w5 ⟨rfl, hx5⟩
      have HZ5 := Lib.hid ((hx5.block hltz).trans HZ.out)
      have HB5 := Lib.hid ((hx5.block hltb).trans HBB.out)
      refine hK.out _ _ ?_ (fun hHeld => ?_)
      · exact HB5.out
      clear hK K'
      try simp only [List.setIfInBounds_toArray, List.set_cons_zero, List.set_cons_succ]
      refine held_take (i := 4) (d := some 109) (v := ?_) (by kernel_rfl) (by kernel_rfl) (by kernel_rfl) (by kernel_rfl) (fun _ _ _ h => h) (fun o ho => ?_) hHeld ?_
      rotate_left
      · simp only [List.getElem?_toArray, List.getElem?_cons_zero, List.getElem?_cons_succ, Option.some.injEq] at ho
        subst ho
        refine ⟨by rfl, fun w hSw => ?_⟩
        (try dsimp only at hSw)
        go_simp
        try with_reducible rfl
      try simp only [Act.put, List.setIfInBounds_toArray, List.set_cons_zero, List.set_cons_succ]
      refine wpAnyH_ready (rs := [5]) (by kernel_rfl) (by simp) ?_
      refine held_step (i := 5) (by kernel_rfl) (fun o ho K' hK => ?_) ?_
      · simp only [List.getElem?_toArray, List.getElem?_cons_zero, List.getElem?_cons_succ, Option.some.injEq] at ho
        subst ho
        obtain ⟨⟨k0, f0⟩, ⟨k1, f1⟩, ⟨k2, f2⟩, ⟨k3, f3⟩, ⟨k4, f4⟩, ⟨k5, f5⟩, ⟨k6, f6⟩, ⟨k7, f7⟩⟩ := box_steps HZ5.out (.int .i64 r.per) (.int .i64 r.lo) (.int .i64 r.hi) (.int .i64 r.card) (.int .i64 r.slack) (.slice ha r.houses.length hc) (.int .i64 r.all) (.int .i64 r.off)
        go_simp
        clear k0 k1 k2 k3 k4 k5 k6 k7 f0 f1 f2 f3 f4 f5 f6 f7
        refine hK.out _ _ ?_ (fun hHeld => ?_)
        · exact (box_done HZ5.out (.int .i64 r.per) (.int .i64 r.lo) (.int .i64 r.hi) (.int .i64 r.card) (.int .i64 r.slack) (.slice ha r.houses.length hc) (.int .i64 r.all) (.int .i64 r.off)).2.2.keep _ _ HB5.out (by simp)
        clear hK K'
        try simp only [List.setIfInBounds_toArray, List.set_cons_zero, List.set_cons_succ]
        refine wpAnyH_ready (rs := [6]) (by kernel_rfl) (by simp) ?_
        refine held_step (i := 6) (by kernel_rfl) (fun o ho K' hK => ?_) ?_
        · simp only [List.getElem?_toArray, List.getElem?_cons_zero, List.getElem?_cons_succ, Option.some.injEq] at ho
          subst ho
          go_simp
          refine hK.out _ _ ?_ (fun hHeld => ?_)
          · exact (box_done HZ5.out (.int .i64 r.per) (.int .i64 r.lo) (.int .i64 r.hi) (.int .i64 r.card) (.int .i64 r.slack) (.slice ha r.houses.length hc) (.int .i64 r.all) (.int .i64 r.off)).2.2.keep _ _ HB5.out (by simp)
          clear hK K'
          try simp only [List.setIfInBounds_toArray, List.set_cons_zero, List.set_cons_succ]
          refine wpAnyH_done (by kernel_rfl) ?_ _
          try simp only [List.setIfInBounds_toArray, List.set_cons_zero, List.set_cons_succ]
          obtain ⟨hb15, hE15, hT15⟩ := box_done HZ5.out (.int .i64 r.per) (.int .i64 r.lo) (.int .i64 r.hi) (.int .i64 r.card) (.int .i64 r.slack) (.slice ha r.houses.length hc) (.int .i64 r.all) (.int .i64 r.off)
          have hEw := hE15 w (HXW.out.trans hx5) (Nat.le_refl _)
          have hHF := RowAt.touch (RowAt.of_owns (owns_ext HOO.out hx5)) hT15 HLW.out
          have HB15 := Lib.hid hb15
          have HEW := Lib.hid hEw
          have HHF := Lib.hid hHF
          clear hb15 hE15 hT15 hEw hHF
          go_wp2
          refine bodyPost_ret (rread_results rfl rfl HB15.out) rfl ?_
          exact ⟨_, _, rfl, HEW.out, (fun h => by rw [HRR.out] at h; cases h), fun q hq => (by rw [HRR.out] at hq; cases hq; exact ⟨by rw [HQ.out], _, rfl, HHF.out⟩)⟩
        exact AllReadyH.nil
      exact AllReadyH.nil
    exact AllReadyH.nil
  · have HQ : Hid (decide (textT r = s) = false) := decide_eq_false hq
    have q1 : decide (textT r = s) = false := HQ.out
    have q2 : (textT r == s) = false := by simpa using hq
    have HQ : Hid (decide (textT r = s) = false) := q1
    clear hq
    obtain ⟨tt, htt⟩ : ∃ tt, textT r = tt := ⟨_, rfl⟩
    rw [htt] at HPR q1 q2 HQ
    have HQ' : Hid (decide (textT r = s) = false) := by rw [← htt] at HQ; exact HQ
    clear htt HQ
    have HQ := HQ'
    clear HQ'
    go_upto_region 19 with fail
    refine wp_region_held_drew (S := (fun w' : World => w'.heap[w.heap.size + 1]? = some (boxR8 r.per r.lo r.hi r.card r.slack (.slice ha r.houses.length hc) r.all r.off))) (by kernel_rfl) ?_ (fun hHeld => ?_)
    · exact HBB.out
    refine held_take (i := 0) (d := some 105) (v := ?_) (by kernel_rfl) (by kernel_rfl) (by kernel_rfl) (by kernel_rfl) (fun _ _ _ h => h) (fun o ho => ?_) hHeld ?_
    rotate_left
    · simp only [List.getElem?_toArray, List.getElem?_cons_zero, Option.some.injEq] at ho
      subst ho
      refine ⟨by rfl, fun w hSw => ?_⟩
      have hSw' := hSw
      obtain ⟨k0, k1, k2, k3, k4, k5, k6, k7⟩ := box_cells8 hSw'
      clear hSw hSw'
      go_simp
      try with_reducible rfl
    try simp only [Act.put, List.setIfInBounds_toArray, List.set_cons_zero, List.set_cons_succ]
    refine held_take (i := 1) (d := some 106) (v := ?_) (by kernel_rfl) (by kernel_rfl) (by kernel_rfl) (by kernel_rfl) (fun _ _ _ h => h) (fun o ho => ?_) hHeld ?_
    rotate_left
    · simp only [List.getElem?_toArray, List.getElem?_cons_zero, List.getElem?_cons_succ, Option.some.injEq] at ho
      subst ho
      refine ⟨by rfl, fun w hSw => ?_⟩
      have hSw' := hSw
      obtain ⟨k0, k1, k2, k3, k4, k5, k6, k7⟩ := box_cells8 hSw'
      clear hSw hSw'
      go_simp
      try with_reducible rfl
    try simp only [Act.put, List.setIfInBounds_toArray, List.set_cons_zero, List.set_cons_succ]
    refine held_take (i := 3) (d := some 108) (v := ?_) (by kernel_rfl) (by kernel_rfl) (by kernel_rfl) (by kernel_rfl) (fun _ _ _ h => h) (fun o ho => ?_) hHeld ?_
    rotate_left
    · simp only [List.getElem?_toArray, List.getElem?_cons_zero, List.getElem?_cons_succ, Option.some.injEq] at ho
      subst ho
      refine ⟨by rfl, fun w hSw => ?_⟩
      (try dsimp only at hSw)
      go_simp
      try with_reducible rfl
    try simp only [Act.put, List.setIfInBounds_toArray, List.set_cons_zero, List.set_cons_succ]
    refine wpAnyH_ready (rs := [2]) (by kernel_rfl) (by simp) ?_
    refine held_step (i := 2) (by kernel_rfl) (fun o ho K' hK => ?_) ?_
    · simp only [List.getElem?_toArray, List.getElem?_cons_zero, List.getElem?_cons_succ, Option.some.injEq] at ho
      subst ho
      go_simp
      go_at_call 20
      refine HPR.out.mono ?_
      rintro e w5 ⟨rfl, hx5⟩
      have HZ5 := Lib.hid ((hx5.block hltz).trans HZ.out)
      have HB5 := Lib.hid ((hx5.block hltb).trans HBB.out)
      refine hK.out _ _ ?_ (fun hHeld => ?_)
      · exact HB5.out
      clear hK K'
      try simp only [List.setIfInBounds_toArray, List.set_cons_zero, List.set_cons_succ]
      refine held_take (i := 4) (d := some 109) (v := ?_) (by kernel_rfl) (by kernel_rfl) (by kernel_rfl) (by kernel_rfl) (fun _ _ _ h => h) (fun o ho => ?_) hHeld ?_
      rotate_left
      · simp only [List.getElem?_toArray, List.getElem?_cons_zero, List.getElem?_cons_succ, Option.some.injEq] at ho
        subst ho
        refine ⟨by rfl, fun w hSw => ?_⟩
        (try dsimp only at hSw)
        go_simp
        try with_reducible rfl
      try simp only [Act.put, List.setIfInBounds_toArray, List.set_cons_zero, List.set_cons_succ]
      refine wpAnyH_ready (rs := [5]) (by kernel_rfl) (by simp) ?_
      refine held_step (i := 5) (by kernel_rfl) (fun o ho K' hK => ?_) ?_
      · simp only [List.getElem?_toArray, List.getElem?_cons_zero, List.getElem?_cons_succ, Option.some.injEq] at ho
        subst ho
        obtain ⟨⟨k0, f0⟩, ⟨k1, f1⟩, ⟨k2, f2⟩, ⟨k3, f3⟩, ⟨k4, f4⟩, ⟨k5, f5⟩, ⟨k6, f6⟩, ⟨k7, f7⟩⟩ := box_steps HZ5.out (.int .i64 r.per) (.int .i64 r.lo) (.int .i64 r.hi) (.int .i64 r.card) (.int .i64 r.slack) (.slice ha r.houses.length hc) (.int .i64 r.all) (.int .i64 r.off)
        go_simp
        clear k0 k1 k2 k3 k4 k5 k6 k7 f0 f1 f2 f3 f4 f5 f6 f7
        refine hK.out _ _ ?_ (fun hHeld => ?_)
        · exact (box_done HZ5.out (.int .i64 r.per) (.int .i64 r.lo) (.int .i64 r.hi) (.int .i64 r.card) (.int .i64 r.slack) (.slice ha r.houses.length hc) (.int .i64 r.all) (.int .i64 r.off)).2.2.keep _ _ HB5.out (by simp)
        clear hK K'
        try simp only [List.setIfInBounds_toArray, List.set_cons_zero, List.set_cons_succ]
        refine wpAnyH_ready (rs := [6]) (by kernel_rfl) (by simp) ?_
        refine held_step (i := 6) (by kernel_rfl) (fun o ho K' hK => ?_) ?_
        · simp only [List.getElem?_toArray, List.getElem?_cons_zero, List.getElem?_cons_succ, Option.some.injEq] at ho
          subst ho
          go_simp
          refine hK.out _ _ ?_ (fun hHeld => ?_)
          · exact (box_done HZ5.out (.int .i64 r.per) (.int .i64 r.lo) (.int .i64 r.hi) (.int .i64 r.card) (.int .i64 r.slack) (.slice ha r.houses.length hc) (.int .i64 r.all) (.int .i64 r.off)).2.2.keep _ _ HB5.out (by simp)
          clear hK K'
          try simp only [List.setIfInBounds_toArray, List.set_cons_zero, List.set_cons_succ]
          refine wpAnyH_done (by kernel_rfl) ?_ _
          try simp only [List.setIfInBounds_toArray, List.set_cons_zero, List.set_cons_succ]
          obtain ⟨hb15, hE15, hT15⟩ := box_done HZ5.out (.int .i64 r.per) (.int .i64 r.lo) (.int .i64 r.hi) (.int .i64 r.card) (.int .i64 r.slack) (.slice ha r.houses.length hc) (.int .i64 r.all) (.int .i64 r.off)
          have hEw := hE15 w (HXW.out.trans hx5) (Nat.le_refl _)
          have hHF := RowAt.touch (RowAt.of_owns (owns_ext HOO.out hx5)) hT15 HLW.out
          have HB15 := Lib.hid hb15
          have HEW := Lib.hid hEw
          have HHF := Lib.hid hHF
          clear hb15 hE15 hT15 hEw hHF
          go_wp2
          refine bodyPost_ret (rread_results rfl rfl HB15.out) rfl ?_
          exact ⟨_, _, rfl, HEW.out, (fun h => by rw [HRR.out] at h; cases h), fun q hq => (by rw [HRR.out] at hq; cases hq; exact ⟨by rw [HQ.out], _, rfl, HHF.out⟩)⟩
        exact AllReadyH.nil
      exact AllReadyH.nil
    exact AllReadyH.nil
end Go.Proofs.YtbeophjdiddomaaGreatDoor
