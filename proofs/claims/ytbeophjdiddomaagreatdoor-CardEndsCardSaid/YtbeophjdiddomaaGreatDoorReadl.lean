/- card.read: its loop. -/
import Derived.Test.YtbeophjdiddomaaGreatDoorReade
import Derived.Test.YtbeophjdiddomaaGreatDoorHouses
import Derived.Test.YtbeophjdiddomaaGreatDoorReadc
import Derived.Deep.MidRow
namespace Go.Proofs.YtbeophjdiddomaaGreatDoor
open Go.RowKit

/-- The box of the round that is read. -/
abbrev boxR8 (p x0 x1 x2 x3 : Int) (hv : Value) (x6 x7 : Int) : Obj := .cells #[.int .i64 p, .int .i64 x0, .int .i64 x1, .int .i64 x2, .int .i64 x3, hv, .int .i64 x6, .int .i64 x7] 26
theorem box_cell5 {W : World} {b : Nat} {p x0 x1 x2 x3 : Int} {hv : Value} {x6 x7 : Int} (h : W.heap[b]? = some (boxR8 p x0 x1 x2 x3 hv x6 x7)) : W.cell? ⟨b, 5, none⟩ = some hv ∧ W.frozen? ⟨b, 5, none⟩ = false := by
  constructor
  · simp [World.cell?, h]
  · simp [World.frozen?, h]
theorem box_cell67 {W : World} {b : Nat} {p x0 x1 x2 x3 : Int} {hv : Value} {x6 x7 : Int} (h : W.heap[b]? = some (boxR8 p x0 x1 x2 x3 hv x6 x7)) : (W.cell? ⟨b, 6, none⟩ = some (.int .i64 x6) ∧ W.frozen? ⟨b, 6, none⟩ = false) ∧ (W.cell? ⟨b, 7, none⟩ = some (.int .i64 x7) ∧ W.frozen? ⟨b, 7, none⟩ = false) := by
  refine ⟨⟨?_, ?_⟩, ?_, ?_⟩
  · simp [World.cell?, h]
  · simp [World.frozen?, h]
  · simp [World.cell?, h]
  · simp [World.frozen?, h]
theorem box_put5 {W : World} {b : Nat} {p x0 x1 x2 x3 : Int} {hv : Value} {x6 x7 : Int} (h : W.heap[b]? = some (boxR8 p x0 x1 x2 x3 hv x6 x7)) (u : Value) : (W.setCell ⟨b, 5, none⟩ u).heap[b]? = some (boxR8 p x0 x1 x2 x3 u x6 x7) := setCell_block (i := 5) (v := u) h
theorem box_put67 {W : World} {b : Nat} {p x0 x1 x2 x3 : Int} {hv : Value} {x6 x7 : Int} (h : W.heap[b]? = some (boxR8 p x0 x1 x2 x3 hv x6 x7)) (y z : Int) : ((W.setCell ⟨b, 6, none⟩ (.int .i64 y)).setCell ⟨b, 7, none⟩ (.int .i64 z)).heap[b]? = some (boxR8 p x0 x1 x2 x3 hv y z) := setCell_block (i := 7) (v := .int .i64 z) (setCell_block (i := 6) (v := .int .i64 y) h)
theorem box_cells8 {W : World} {b : Nat} {p x0 x1 x2 x3 : Int} {hv : Value} {x6 x7 : Int} (h : W.heap[b]? = some (boxR8 p x0 x1 x2 x3 hv x6 x7)) : W.cell? ⟨b, 0, none⟩ = some (.int .i64 p) ∧ W.cell? ⟨b, 1, none⟩ = some (.int .i64 x0) ∧ W.cell? ⟨b, 2, none⟩ = some (.int .i64 x1) ∧ W.cell? ⟨b, 3, none⟩ = some (.int .i64 x2) ∧ W.cell? ⟨b, 4, none⟩ = some (.int .i64 x3) ∧ W.cell? ⟨b, 5, none⟩ = some hv ∧ W.cell? ⟨b, 6, none⟩ = some (.int .i64 x6) ∧ W.cell? ⟨b, 7, none⟩ = some (.int .i64 x7) := by
  simp [World.cell?, h]
theorem hown_block {W : World} {base n c : Nat} {t : TypeId} {sz : Nat} {a : Addr} {xs : List Value} (h : W.ownsRow base t sz (.slice (some a) n c) n xs) : base ≤ a.block := by
  rcases h.2 with ⟨e, _⟩ | ⟨g, cap, cur, e, hb, _⟩
  · cases e
  · cases e; exact hb
theorem box_there {W : World} {b : Nat} {p x0 x1 x2 x3 : Int} {hv : Value} {x6 x7 : Int} (h : W.heap[b]? = some (boxR8 p x0 x1 x2 x3 hv x6 x7)) : W.there b 0 8 := by
  intro j hj
  rcases (show j = 0 ∨ j = 1 ∨ j = 2 ∨ j = 3 ∨ j = 4 ∨ j = 5 ∨ j = 6 ∨ j = 7 by omega) with rfl | rfl | rfl | rfl | rfl | rfl | rfl | rfl <;> simp [World.cell?, World.frozen?, h]
/-- A round is laid over another one. -/
theorem box_over {W : World} {b : Nat} {p x0 x1 x2 x3 : Int} {hv : Value} {x6 x7 : Int} (h : W.heap[b]? = some (boxR8 p x0 x1 x2 x3 hv x6 x7)) (p' y0 y1 y2 y3 : Int) (hv' : Value) (y6 y7 : Int) :
    (W.setCells b 0 [.int .i64 p', .int .i64 y0, .int .i64 y1, .int .i64 y2, .int .i64 y3, hv', .int .i64 y6, .int .i64 y7]).heap[b]? = some (boxR8 p' y0 y1 y2 y3 hv' y6 y7) ∧
    (∀ W0, Ext W0 W → W0.heap.size ≤ b → Ext W0 (W.setCells b 0 [.int .i64 p', .int .i64 y0, .int .i64 y1, .int .i64 y2, .int .i64 y3, hv', .int .i64 y6, .int .i64 y7])) ∧
    Touch (· = b) W (W.setCells b 0 [.int .i64 p', .int .i64 y0, .int .i64 y1, .int .i64 y2, .int .i64 y3, hv', .int .i64 y6, .int .i64 y7]) := by
  refine ⟨?_, fun W0 hx hb => ?_, ?_⟩
  · simp only [World.setCells, Nat.zero_add, Nat.reduceAdd]
    have s0 : (W.setCell ⟨b, 0, none⟩ (.int .i64 p')).heap[b]? = some (boxR8 p' x0 x1 x2 x3 hv x6 x7) := setCell_block (i := 0) (v := .int .i64 p') h
    have s1 : ((W.setCell ⟨b, 0, none⟩ (.int .i64 p')).setCell ⟨b, 1, none⟩ (.int .i64 y0)).heap[b]? = some (boxR8 p' y0 x1 x2 x3 hv x6 x7) := setCell_block (i := 1) (v := .int .i64 y0) s0
    have s2 : (((W.setCell ⟨b, 0, none⟩ (.int .i64 p')).setCell ⟨b, 1, none⟩ (.int .i64 y0)).setCell ⟨b, 2, none⟩ (.int .i64 y1)).heap[b]? = some (boxR8 p' y0 y1 x2 x3 hv x6 x7) := setCell_block (i := 2) (v := .int .i64 y1) s1
    have s3 : ((((W.setCell ⟨b, 0, none⟩ (.int .i64 p')).setCell ⟨b, 1, none⟩ (.int .i64 y0)).setCell ⟨b, 2, none⟩ (.int .i64 y1)).setCell ⟨b, 3, none⟩ (.int .i64 y2)).heap[b]? = some (boxR8 p' y0 y1 y2 x3 hv x6 x7) := setCell_block (i := 3) (v := .int .i64 y2) s2
    have s4 : (((((W.setCell ⟨b, 0, none⟩ (.int .i64 p')).setCell ⟨b, 1, none⟩ (.int .i64 y0)).setCell ⟨b, 2, none⟩ (.int .i64 y1)).setCell ⟨b, 3, none⟩ (.int .i64 y2)).setCell ⟨b, 4, none⟩ (.int .i64 y3)).heap[b]? = some (boxR8 p' y0 y1 y2 y3 hv x6 x7) := setCell_block (i := 4) (v := .int .i64 y3) s3
    have s5 : ((((((W.setCell ⟨b, 0, none⟩ (.int .i64 p')).setCell ⟨b, 1, none⟩ (.int .i64 y0)).setCell ⟨b, 2, none⟩ (.int .i64 y1)).setCell ⟨b, 3, none⟩ (.int .i64 y2)).setCell ⟨b, 4, none⟩ (.int .i64 y3)).setCell ⟨b, 5, none⟩ (hv')).heap[b]? = some (boxR8 p' y0 y1 y2 y3 hv' x6 x7) := setCell_block (i := 5) (v := hv') s4
    have s6 : (((((((W.setCell ⟨b, 0, none⟩ (.int .i64 p')).setCell ⟨b, 1, none⟩ (.int .i64 y0)).setCell ⟨b, 2, none⟩ (.int .i64 y1)).setCell ⟨b, 3, none⟩ (.int .i64 y2)).setCell ⟨b, 4, none⟩ (.int .i64 y3)).setCell ⟨b, 5, none⟩ (hv')).setCell ⟨b, 6, none⟩ (.int .i64 y6)).heap[b]? = some (boxR8 p' y0 y1 y2 y3 hv' y6 x7) := setCell_block (i := 6) (v := .int .i64 y6) s5
    have s7 : ((((((((W.setCell ⟨b, 0, none⟩ (.int .i64 p')).setCell ⟨b, 1, none⟩ (.int .i64 y0)).setCell ⟨b, 2, none⟩ (.int .i64 y1)).setCell ⟨b, 3, none⟩ (.int .i64 y2)).setCell ⟨b, 4, none⟩ (.int .i64 y3)).setCell ⟨b, 5, none⟩ (hv')).setCell ⟨b, 6, none⟩ (.int .i64 y6)).setCell ⟨b, 7, none⟩ (.int .i64 y7)).heap[b]? = some (boxR8 p' y0 y1 y2 y3 hv' y6 y7) := setCell_block (i := 7) (v := .int .i64 y7) s6
    exact s7
  · simp only [World.setCells, Nat.zero_add, Nat.reduceAdd]
    exact (((((((hx.setCell (p := ⟨b, 0, none⟩) hb _).setCell (p := ⟨b, 1, none⟩) hb _).setCell (p := ⟨b, 2, none⟩) hb _).setCell (p := ⟨b, 3, none⟩) hb _).setCell (p := ⟨b, 4, none⟩) hb _).setCell (p := ⟨b, 5, none⟩) hb _).setCell (p := ⟨b, 6, none⟩) hb _).setCell (p := ⟨b, 7, none⟩) hb _
  · simp only [World.setCells, Nat.zero_add, Nat.reduceAdd]
    exact (((((((Touch.setCell (M := (· = b)) (a := ⟨b, 0, none⟩) _ rfl).trans (Touch.setCell (M := (· = b)) (a := ⟨b, 1, none⟩) _ rfl)).trans (Touch.setCell (M := (· = b)) (a := ⟨b, 2, none⟩) _ rfl)).trans (Touch.setCell (M := (· = b)) (a := ⟨b, 3, none⟩) _ rfl)).trans (Touch.setCell (M := (· = b)) (a := ⟨b, 4, none⟩) _ rfl)).trans (Touch.setCell (M := (· = b)) (a := ⟨b, 5, none⟩) _ rfl)).trans (Touch.setCell (M := (· = b)) (a := ⟨b, 6, none⟩) _ rfl)).trans (Touch.setCell (M := (· = b)) (a := ⟨b, 7, none⟩) _ rfl)
theorem cells_six {W : World} {base nb nc : Nat} {y0 y1 y2 y3 y4 y5 : Int} (h : W.ownsRow base 3 1 (.slice (some ⟨nb, 0, none⟩) 6 nc) 6 ([y0, y1, y2, y3, y4, y5].map (.int .i64))) :
    W.cell? ⟨nb, 0, none⟩ = some (.int .i64 y0) ∧ W.cell? ⟨nb, 1, none⟩ = some (.int .i64 y1) ∧ W.cell? ⟨nb, 2, none⟩ = some (.int .i64 y2) ∧ W.cell? ⟨nb, 3, none⟩ = some (.int .i64 y3) ∧ W.cell? ⟨nb, 4, none⟩ = some (.int .i64 y4) ∧ W.cell? ⟨nb, 5, none⟩ = some (.int .i64 y5) :=
  ⟨h.cellAt 0 (by omega), h.cellAt 1 (by omega), h.cellAt 2 (by omega), h.cellAt 3 (by omega), h.cellAt 4 (by omega), h.cellAt 5 (by omega)⟩
/-- The first loop of a code, and what follows it. -/
def loopIn : Code → Option Code
  | .loop c => some c
  | .seq a b => match loopIn a with
    | some c => some c
    | none => loopIn b
  | .block _ c => loopIn c
  | .scope c => loopIn c
  | .cond _ a b => match loopIn a with
    | some c => some c
    | none => loopIn b
  | _ => none
def afterLoop : Code → Option Code
  | .seq a b => match loopIn a with
    | some _ => some b
    | none => afterLoop b
  | .block _ c => afterLoop c
  | .scope c => afterLoop c
  | _ => none
noncomputable def readBody : Code := ((Tryz.f52.body.bind loopIn).getD .skip)
noncomputable def readRest : Code := ((Tryz.f52.body.bind afterLoop).getD .skip)
/-- What is known at card.read's loop. -/
structure ReadAt (s : List UInt8) (w w1 w4 : World) (b L nn vb vo vc : Nat) (p x0 x1 x2 x3 : Int) : Prop where
  ht : TabOk w
  hm : MaxOk w
  hs : s.length ≤ 500
  hL : (splitL 10 s).length = L
  hQL : L = nn + 5
  hn01 : 0 ≤ (nn : Int) ∧ (nn : Int) ≤ 999999
  hnn : nn ≤ 496
  hPN : toldN (lineAt s 0) = [p, (nn : Int)]
  hMO : manyOf s = nn
  hXX : toldN (lineAt s 1) = [x0, x1, x2, x3]
  hQ0 : toldOk wRound 2 (lineAt s 0) = true
  hQ1 : toldOk wWeigh 4 (lineAt s 1) = true
  hx1 : Ext (w.alloc (.cells #[.int .i64 0, .int .i64 0, .int .i64 0, .int .i64 0, .int .i64 0, .slice none 0 0, .int .i64 0, .int .i64 0] 26)) w1
  hx24 : Ext w1 w4
  hy4 : Ext w w4
  hst : StrsAt w1 (.slice (some ⟨b, 0, none⟩) L L) (splitL 10 s)
  a1 : w4.cell? ⟨vb, vo + 1, none⟩ = some (.int .i64 (nn : Int))
  hvc : vc = vc
set_option maxRecDepth 1000000 in
def ReadI (s : List UInt8) (w _w1 w4 : World) (b L nn vb vo vc : Nat) (p x0 x1 x2 x3 : Int) (c1 c5 c7 c10 c11 c12 c13 c14 c15 c16 c17 c18 c19 c20 c21 c22 c23 c24 c25 c26 c27 c28 c29 c30 c31 c32 c33 c34 c35 c36 c37 c38 c39 c40 c41 c42 c43 c44 c45 c46 c47 c48 c49 c50 c51 c85 c86 c87 c88 c89 c90 c91 c92 c93 c94 c95 c96 c97 c98 c99 c100 c101 c102 c103 c104 c105 c106 c107 : Value) (a : Act) (wr : World) : Prop := ∃ u8 u9 u54 u55 u56 u57 u58 u59 u60 u61 u62 u63 u64 u65 u66 u67 u68 u69 u70 u71 u72 u73 u74 u75 u76 u77 u78 u79 u80 u81 u82 u83 u84 : Value, (∃ (j : Nat) (hv : Value), j ≤ nn ∧ u54 = .int .i64 j ∧ wr.ownsRow (w4.heap.size + 1) 31 6 hv j ((housesOf s j).flatMap House.cells) ∧ Hid (wr.heap[w4.heap.size]? = some (boxR8 p x0 x1 x2 x3 hv 0 0)) ∧ Hid (∀ i, i < j → toldOk wHouse 6 (lineAt s (i + 2)) = true) ∧ Ext w4 wr) ∧ a = ⟨#[strV s, c1, .pointer (some ⟨w.heap.size, 0, none⟩), .slice (some ⟨b, 0, none⟩) L L, .slice (some ⟨vb, vo, none⟩) 2 vc, c5, .pointer (some ⟨w4.heap.size, 0, none⟩), c7, u8, u9, c10, c11, c12, c13, c14, c15, c16, c17, c18, c19, c20, c21, c22, c23, c24, c25, c26, c27, c28, c29, c30, c31, c32, c33, c34, c35, c36, c37, c38, c39, c40, c41, c42, c43, c44, c45, c46, c47, c48, c49, c50, c51, .slice (some ⟨b, 2, none⟩) nn (L - 2), .int .i64 (nn : Int), u54, u55, u56, u57, u58, u59, u60, u61, u62, u63, u64, u65, u66, u67, u68, u69, u70, u71, u72, u73, u74, u75, u76, u77, u78, u79, u80, u81, u82, u83, u84, c85, c86, c87, c88, c89, c90, c91, c92, c93, c94, c95, c96, c97, c98, c99, c100, c101, c102, c103, c104, c105, c106, c107], []⟩
set_option maxRecDepth 1000000 in
def ReadX (s : List UInt8) (w _w1 w4 : World) (b L nn vb vo vc : Nat) (p x0 x1 x2 x3 : Int) (c1 c5 c7 c10 c11 c12 c13 c14 c15 c16 c17 c18 c19 c20 c21 c22 c23 c24 c25 c26 c27 c28 c29 c30 c31 c32 c33 c34 c35 c36 c37 c38 c39 c40 c41 c42 c43 c44 c45 c46 c47 c48 c49 c50 c51 c85 c86 c87 c88 c89 c90 c91 c92 c93 c94 c95 c96 c97 c98 c99 c100 c101 c102 c103 c104 c105 c106 c107 : Value) (a : Act) (wr : World) : Prop := ∃ u8 u9 u54 u55 u56 u57 u58 u59 u60 u61 u62 u63 u64 u65 u66 u67 u68 u69 u70 u71 u72 u73 u74 u75 u76 u77 u78 u79 u80 u81 u82 u83 u84 hv : Value, (wr.ownsRow (w4.heap.size + 1) 31 6 hv nn ((housesOf s nn).flatMap House.cells) ∧ Hid (wr.heap[w4.heap.size]? = some (boxR8 p x0 x1 x2 x3 hv 0 0)) ∧ Hid (∀ i, i < nn → toldOk wHouse 6 (lineAt s (i + 2)) = true) ∧ Ext w4 wr) ∧ a = ⟨#[strV s, c1, .pointer (some ⟨w.heap.size, 0, none⟩), .slice (some ⟨b, 0, none⟩) L L, .slice (some ⟨vb, vo, none⟩) 2 vc, c5, .pointer (some ⟨w4.heap.size, 0, none⟩), c7, u8, u9, c10, c11, c12, c13, c14, c15, c16, c17, c18, c19, c20, c21, c22, c23, c24, c25, c26, c27, c28, c29, c30, c31, c32, c33, c34, c35, c36, c37, c38, c39, c40, c41, c42, c43, c44, c45, c46, c47, c48, c49, c50, c51, .slice (some ⟨b, 2, none⟩) nn (L - 2), .int .i64 (nn : Int), u54, u55, u56, u57, u58, u59, u60, u61, u62, u63, u64, u65, u66, u67, u68, u69, u70, u71, u72, u73, u74, u75, u76, u77, u78, u79, u80, u81, u82, u83, u84, c85, c86, c87, c88, c89, c90, c91, c92, c93, c94, c95, c96, c97, c98, c99, c100, c101, c102, c103, c104, c105, c106, c107], []⟩
def readMu (nn : Nat) (a : Act) (_ : World) : Nat := nn - (intOf (a.tmps.getD 54 undef)).toNat
set_option maxRecDepth 1000000 in
set_option maxHeartbeats 64000000 in
theorem readl_no {K : Act → World → Prop} (s : List UInt8) (w w1 w4 : World) (b L nn vb vo vc : Nat) (p x0 x1 x2 x3 : Int) (h : ReadAt s w w1 w4 b L nn vb vo vc p x0 x1 x2 x3) (c1 c5 c7 c10 c11 c12 c13 c14 c15 c16 c17 c18 c19 c20 c21 c22 c23 c24 c25 c26 c27 c28 c29 c30 c31 c32 c33 c34 c35 c36 c37 c38 c39 c40 c41 c42 c43 c44 c45 c46 c47 c48 c49 c50 c51 c85 c86 c87 c88 c89 c90 c91 c92 c93 c94 c95 c96 c97 c98 c99 c100 c101 c102 c103 c104 c105 c106 c107 u8 u9 u55 u56 u57 u58 u59 u60 u61 u62 u63 u64 u65 u66 u67 u68 u69 u70 u71 u72 u73 u74 u75 u76 u77 u78 u79 u80 u81 u82 u83 u84 : Value) (R : Act → World → Prop) (wr : World) (j : Nat) (hlt : j < nn) (hx : Ext w4 wr) (q2 : toldOk wHouse 6 (lineAt s (j + 2)) = false) : Code.wp Tryz.prog readBody (Exit.then R (Exit.inBlock 0 (Exit.then K (bodyPost Tryz.prog Tryz.f52 (ReadPost s w))))) ⟨#[strV s, c1, .pointer (some ⟨w.heap.size, 0, none⟩), .slice (some ⟨b, 0, none⟩) L L, .slice (some ⟨vb, vo, none⟩) 2 vc, c5, .pointer (some ⟨w4.heap.size, 0, none⟩), c7, u8, u9, c10, c11, c12, c13, c14, c15, c16, c17, c18, c19, c20, c21, c22, c23, c24, c25, c26, c27, c28, c29, c30, c31, c32, c33, c34, c35, c36, c37, c38, c39, c40, c41, c42, c43, c44, c45, c46, c47, c48, c49, c50, c51, .slice (some ⟨b, 2, none⟩) nn (L - 2), .int .i64 (nn : Int), .int .i64 (j : Int), u55, u56, u57, u58, u59, u60, u61, u62, u63, u64, u65, u66, u67, u68, u69, u70, u71, u72, u73, u74, u75, u76, u77, u78, u79, u80, u81, u82, u83, u84, c85, c86, c87, c88, c89, c90, c91, c92, c93, c94, c95, c96, c97, c98, c99, c100, c101, c102, c103, c104, c105, c106, c107], []⟩ wr := by
  obtain ⟨ht, hm, hs, hL, hQL, hn01, hnn, hPN, hMO, hXX, hQ0, hQ1, hx1, hx24, hy4, hst, a1, -⟩ := h
  have HTO := Lib.hid (fun i kind word M w1 (hx : Ext w w1) (hM : 2 ≤ M ∧ M ≤ 6) (hn : NameAt kind word) (h : toldOk word M (lineAt s i) = true) => told_ok (lineAt s i) kind word M w1 (ht.ext hx) (hm.ext hx) (by have := lineAt_short s i; omega) hM hn h)
  have HTN := Lib.hid (fun i kind word M w1 (hx : Ext w w1) (hM : 2 ≤ M ∧ M ≤ 6) (hn : NameAt kind word) (h : toldOk word M (lineAt s i) = false) => told_no (lineAt s i) kind word M w1 (ht.ext hx) (hm.ext hx) (by have := lineAt_short s i; omega) hM hn h)
  have HTX := Lib.hid (fun v r w1 (hx : Ext w w1) (hr : RoundAt w1 v r) (hB : TextB r) => text_any v r w1 hr hB (ht.ext hx))
  have HN0 := Lib.hid (show NameAt 0 wRound from nm_at0)
  have HN1 := Lib.hid (show NameAt 1 wWeigh from nm_at1)
  have HN2 := Lib.hid (show NameAt 2 wHouse from nm_at2)
  have HN3 := Lib.hid (show NameAt 3 wAll from nm_at3)
  have HSU := Lib.hid sure_yes
  have HSN := Lib.hid sure_no
  have HL := Lib.hid hL
  have HQL := Lib.hid hQL
  have HPN := Lib.hid hPN
  have HMO := Lib.hid hMO
  have HXX := Lib.hid hXX
  have HQ0 := Lib.hid hQ0
  have HQ1 := Lib.hid hQ1
  have HST := Lib.hid hst
  have hmix : Tryz.prog.follows .mixedOrders = true := by kernel_rfl
  clear ht hm hL hQL hPN hMO hXX hQ0 hQ1 hst
  conv => arg 2; whnf
  have hl2 : (splitL 10 s)[2 + j]? = some (lineAt s (j + 2)) := by
    rw [Nat.add_comm 2 j]; exact lineAt_get (by have := HL.out; have := HQL.out; omega)
  have z2 := (hx24.trans hx).cell (strs_cell HST.out hl2)
  have x1' : decide ((j : Int) < (nn : Int)) = true := by simpa using hlt
  have x2' : (j : Int) < (nn : Int) := by omega
  have x3' : (0 : Int) ≤ (j : Int) := by omega
  have hyr := hy4.trans hx
  have HF : Hid (∀ e w', StrangeP w e w' → ReadPost s w e w') := fun e w' h => .inr ⟨(fun ⟨r, hr⟩ => by
    have hjr : j < r.houses.length := by have := many_text hr; have := HMO.out; omega
    rw [(text_lot hr (List.getElem?_eq_getElem hjr)).1] at q2; cases q2), h⟩
  have HT2 := Lib.hid (fun w1 hx => HTN.out (j + 2) 2 wHouse 6 w1 hx ⟨by omega, by omega⟩ HN2.out q2)
  clear q2
  go_wp2_with (go_at_call 89; refine (HT2.out _ hyr).mono ?_; rintro e w6 ⟨why, rfl, hx6⟩)
  exact ⟨rfl, HF.out _ _ ⟨why, rfl, hyr.trans hx6⟩⟩
set_option maxRecDepth 1000000 in
set_option maxHeartbeats 64000000 in
theorem readl_yes {K : Act → World → Prop} (s : List UInt8) (w w1 w4 : World) (b L nn vb vo vc : Nat) (p x0 x1 x2 x3 : Int) (h : ReadAt s w w1 w4 b L nn vb vo vc p x0 x1 x2 x3) (c1 c5 c7 c10 c11 c12 c13 c14 c15 c16 c17 c18 c19 c20 c21 c22 c23 c24 c25 c26 c27 c28 c29 c30 c31 c32 c33 c34 c35 c36 c37 c38 c39 c40 c41 c42 c43 c44 c45 c46 c47 c48 c49 c50 c51 c85 c86 c87 c88 c89 c90 c91 c92 c93 c94 c95 c96 c97 c98 c99 c100 c101 c102 c103 c104 c105 c106 c107 u8 u9 u55 u56 u57 u58 u59 u60 u61 u62 u63 u64 u65 u66 u67 u68 u69 u70 u71 u72 u73 u74 u75 u76 u77 u78 u79 u80 u81 u82 u83 u84 : Value) (R : Act → World → Prop) (wr : World) (j : Nat) (hv : Value) (hlt : j < nn) (hrel : wr.ownsRow (w4.heap.size + 1) 31 6 hv j ((housesOf s j).flatMap House.cells) ∧ Hid (wr.heap[w4.heap.size]? = some (boxR8 p x0 x1 x2 x3 hv 0 0)) ∧ Hid (∀ i, i < j → toldOk wHouse 6 (lineAt s (i + 2)) = true) ∧ Ext w4 wr) (q2 : toldOk wHouse 6 (lineAt s (j + 2)) = true) (hR : ∀ (u8 u9 u55 u56 u57 u58 u59 u60 u61 u62 u63 u64 u65 u66 u67 u68 u69 u70 u71 u72 u73 u74 u75 u76 u77 u78 u79 u80 u81 u82 u83 u84 : Value) (hv : Value) (wr : World), wr.ownsRow (w4.heap.size + 1) 31 6 hv (j + 1) ((housesOf s (j + 1)).flatMap House.cells) ∧ Hid (wr.heap[w4.heap.size]? = some (boxR8 p x0 x1 x2 x3 hv 0 0)) ∧ Hid (∀ i, i < (j + 1) → toldOk wHouse 6 (lineAt s (i + 2)) = true) ∧ Ext w4 wr → R ⟨#[strV s, c1, .pointer (some ⟨w.heap.size, 0, none⟩), .slice (some ⟨b, 0, none⟩) L L, .slice (some ⟨vb, vo, none⟩) 2 vc, c5, .pointer (some ⟨w4.heap.size, 0, none⟩), c7, u8, u9, c10, c11, c12, c13, c14, c15, c16, c17, c18, c19, c20, c21, c22, c23, c24, c25, c26, c27, c28, c29, c30, c31, c32, c33, c34, c35, c36, c37, c38, c39, c40, c41, c42, c43, c44, c45, c46, c47, c48, c49, c50, c51, .slice (some ⟨b, 2, none⟩) nn (L - 2), .int .i64 (nn : Int), .int .i64 ((j : Int) + 1), u55, u56, u57, u58, u59, u60, u61, u62, u63, u64, u65, u66, u67, u68, u69, u70, u71, u72, u73, u74, u75, u76, u77, u78, u79, u80, u81, u82, u83, u84, c85, c86, c87, c88, c89, c90, c91, c92, c93, c94, c95, c96, c97, c98, c99, c100, c101, c102, c103, c104, c105, c106, c107], []⟩ wr) : Code.wp Tryz.prog readBody (Exit.then R (Exit.inBlock 0 (Exit.then K (bodyPost Tryz.prog Tryz.f52 (ReadPost s w))))) ⟨#[strV s, c1, .pointer (some ⟨w.heap.size, 0, none⟩), .slice (some ⟨b, 0, none⟩) L L, .slice (some ⟨vb, vo, none⟩) 2 vc, c5, .pointer (some ⟨w4.heap.size, 0, none⟩), c7, u8, u9, c10, c11, c12, c13, c14, c15, c16, c17, c18, c19, c20, c21, c22, c23, c24, c25, c26, c27, c28, c29, c30, c31, c32, c33, c34, c35, c36, c37, c38, c39, c40, c41, c42, c43, c44, c45, c46, c47, c48, c49, c50, c51, .slice (some ⟨b, 2, none⟩) nn (L - 2), .int .i64 (nn : Int), .int .i64 (j : Int), u55, u56, u57, u58, u59, u60, u61, u62, u63, u64, u65, u66, u67, u68, u69, u70, u71, u72, u73, u74, u75, u76, u77, u78, u79, u80, u81, u82, u83, u84, c85, c86, c87, c88, c89, c90, c91, c92, c93, c94, c95, c96, c97, c98, c99, c100, c101, c102, c103, c104, c105, c106, c107], []⟩ wr := by
  obtain ⟨hown, hrb, hall, hx⟩ := hrel
  obtain ⟨ht, hm, hs, hL, hQL, hn01, hnn, hPN, hMO, hXX, hQ0, hQ1, hx1, hx24, hy4, hst, a1, -⟩ := h
  have HTO := Lib.hid (fun i kind word M w1 (hx : Ext w w1) (hM : 2 ≤ M ∧ M ≤ 6) (hn : NameAt kind word) (h : toldOk word M (lineAt s i) = true) => told_ok (lineAt s i) kind word M w1 (ht.ext hx) (hm.ext hx) (by have := lineAt_short s i; omega) hM hn h)
  have HTN := Lib.hid (fun i kind word M w1 (hx : Ext w w1) (hM : 2 ≤ M ∧ M ≤ 6) (hn : NameAt kind word) (h : toldOk word M (lineAt s i) = false) => told_no (lineAt s i) kind word M w1 (ht.ext hx) (hm.ext hx) (by have := lineAt_short s i; omega) hM hn h)
  have HTX := Lib.hid (fun v r w1 (hx : Ext w w1) (hr : RoundAt w1 v r) (hB : TextB r) => text_any v r w1 hr hB (ht.ext hx))
  have HN0 := Lib.hid (show NameAt 0 wRound from nm_at0)
  have HN1 := Lib.hid (show NameAt 1 wWeigh from nm_at1)
  have HN2 := Lib.hid (show NameAt 2 wHouse from nm_at2)
  have HN3 := Lib.hid (show NameAt 3 wAll from nm_at3)
  have HSU := Lib.hid sure_yes
  have HSN := Lib.hid sure_no
  have HL := Lib.hid hL
  have HQL := Lib.hid hQL
  have HPN := Lib.hid hPN
  have HMO := Lib.hid hMO
  have HXX := Lib.hid hXX
  have HQ0 := Lib.hid hQ0
  have HQ1 := Lib.hid hQ1
  have HST := Lib.hid hst
  have hmix : Tryz.prog.follows .mixedOrders = true := by kernel_rfl
  clear ht hm hL hQL hPN hMO hXX hQ0 hQ1 hst
  have HR := Lib.hid hR
  clear hR
  conv => arg 2; whnf
  have hl2 : (splitL 10 s)[2 + j]? = some (lineAt s (j + 2)) := by
    rw [Nat.add_comm 2 j]; exact lineAt_get (by have := HL.out; have := HQL.out; omega)
  have z2 := (hx24.trans hx).cell (strs_cell HST.out hl2)
  have x1' : decide ((j : Int) < (nn : Int)) = true := by simpa using hlt
  have x2' : (j : Int) < (nn : Int) := by omega
  have x3' : (0 : Int) ≤ (j : Int) := by omega
  have hyr := hy4.trans hx
  obtain ⟨hl6, -, -⟩ := told_line q2
  obtain ⟨y0, y1, y2, y3, y4, y5, hyy⟩ := six_of hl6
  have HYY := Lib.hid hyy
  have HT2 := Lib.hid (fun w1 hx => HTO.out (j + 2) 2 wHouse 6 w1 hx ⟨by omega, by omega⟩ HN2.out q2)
  have HAL : Hid (∀ i, i < j + 1 → toldOk wHouse 6 (lineAt s (i + 2)) = true) := fun i hi => by
    by_cases e : i = j
    · subst e; exact q2
    · exact hall.out i (by omega)
  have HHS : Hid ((housesOf s j).flatMap House.cells ++ [.int .i64 y0, .int .i64 y1, .int .i64 y2, .int .i64 y3, .int .i64 y4, .int .i64 y5] = (housesOf s (j + 1)).flatMap House.cells) := by
    unfold Hid; rw [housesOf_succ, hyy, List.flatMap_append]; rfl
  have HO := Lib.hid hown
  have HHV := Lib.hid (fun k hk => (World.ownsRow.lt hown k hk).2)
  have hs6 : j + 1 ≤ maxLen ∧ (j + 1) * 48 ≤ 140737488355328 := by unfold maxLen; omega
  have HSZ := Lib.hid hs6
  have hltr := (Array.getElem?_eq_some_iff.1 hrb.out).1
  clear q2 hown hl6 hyy hs6
  go_upto_region 10 with (go_at_call 89; refine (HT2.out _ hyr).mono ?_; rintro e w6 ⟨v9, rfl, hx6, hv9⟩; rw [HYY.out] at hv9; obtain ⟨nb, nc, hve9⟩ := owns_succ (show w6.ownsRow wr.heap.size 3 1 v9 (5 + 1) _ from hv9); subst hve9; have HV9 := Lib.hid hv9; have hrb6 := (hx6.block hltr).trans hrb.out; clear hv9)
  have HRB6 := Lib.hid hrb6
  have hHV2 := HHV.out
  have HHV : Hid (∀ k, hv.ownBlock = some k → k < wr.heap.size) := hHV2
  obtain ⟨g0, g1, g2, g3, g4, g5⟩ := cells_six HV9.out
  have g6 := (box_cell5 hrb6).1
  have hz6 : w4.heap.size + 1 ≤ w6.heap.size := (Array.getElem?_eq_some_iff.1 hrb6).1
  have hal6 := ((Ext.refl w6).drew).alloc (.cells #[.int .i64 y0, .int .i64 y1, .int .i64 y2, .int .i64 y3, .int .i64 y4, .int .i64 y5] 31)
  clear hHV2 hrb6 z2
  refine wp_region_noPanic ?_
  refine wp_region_any (by kernel_rfl) (wpAny_of_till (z := 24) (S := (fun w' => w'.cell? ⟨w4.heap.size, 5, none⟩ = some hv ∧ w'.cell? ⟨nb, 0, none⟩ = some (.int .i64 y0) ∧ w'.cell? ⟨nb, 1, none⟩ = some (.int .i64 y1) ∧ w'.cell? ⟨nb, 2, none⟩ = some (.int .i64 y2) ∧ w'.cell? ⟨nb, 3, none⟩ = some (.int .i64 y3) ∧ w'.cell? ⟨nb, 4, none⟩ = some (.int .i64 y4) ∧ w'.cell? ⟨nb, 5, none⟩ = some (.int .i64 y5))) _ _ _ _ ?_)
  change wpTill _ _ _ _ _ _ _ _ _ w6.drew
  have hS0 := (show w6.drew.cell? ⟨w4.heap.size, 5, none⟩ = some hv ∧ w6.drew.cell? ⟨nb, 0, none⟩ = some (.int .i64 y0) ∧ w6.drew.cell? ⟨nb, 1, none⟩ = some (.int .i64 y1) ∧ w6.drew.cell? ⟨nb, 2, none⟩ = some (.int .i64 y2) ∧ w6.drew.cell? ⟨nb, 3, none⟩ = some (.int .i64 y3) ∧ w6.drew.cell? ⟨nb, 4, none⟩ = some (.int .i64 y4) ∧ w6.drew.cell? ⟨nb, 5, none⟩ = some (.int .i64 y5) from ⟨g6, g0, g1, g2, g3, g4, g5⟩)
  refine till_at (i := 0) (d := some 60) (v := ?_) (by kernel_rfl) (by kernel_rfl) (by kernel_rfl) (by kernel_rfl) (by kernel_rfl) (fun _ _ _ h => h) (fun o ho => ?_) hS0 ?_
  rotate_left
  · simp only [List.getElem?_toArray, List.getElem?_cons_zero, Option.some.injEq] at ho
    subst ho
    refine Or.inl ⟨by rfl, fun w' hSw => ?_⟩
    obtain ⟨hSw0, hSw1, hSw2, hSw3, hSw4, hSw5, hSw6⟩ := hSw
    go_simp
    try with_reducible rfl
  try simp only [Act.put, List.setIfInBounds_toArray, List.set_cons_zero, List.set_cons_succ]
  refine till_at (i := 1) (d := some 61) (v := ?_) (by kernel_rfl) (by kernel_rfl) (by kernel_rfl) (by kernel_rfl) (by kernel_rfl) (fun _ _ _ h => h) (fun o ho => ?_) hS0 ?_
  rotate_left
  · simp only [List.getElem?_toArray, List.getElem?_cons_zero, List.getElem?_cons_succ, Option.some.injEq] at ho
    subst ho
    refine Or.inl ⟨by rfl, fun w' hSw => ?_⟩
    obtain ⟨hSw0, hSw1, hSw2, hSw3, hSw4, hSw5, hSw6⟩ := hSw
    go_simp
    try with_reducible rfl
  try simp only [Act.put, List.setIfInBounds_toArray, List.set_cons_zero, List.set_cons_succ]
  refine till_at (i := 2) (d := some 62) (v := ?_) (by kernel_rfl) (by kernel_rfl) (by kernel_rfl) (by kernel_rfl) (by kernel_rfl) (fun _ _ _ h => h) (fun o ho => ?_) hS0 ?_
  rotate_left
  · simp only [List.getElem?_toArray, List.getElem?_cons_zero, List.getElem?_cons_succ, Option.some.injEq] at ho
    subst ho
    refine Or.inl ⟨by rfl, fun w' hSw => ?_⟩
    obtain ⟨hSw0, hSw1, hSw2, hSw3, hSw4, hSw5, hSw6⟩ := hSw
    go_simp
    try with_reducible rfl
  try simp only [Act.put, List.setIfInBounds_toArray, List.set_cons_zero, List.set_cons_succ]
  refine till_at (i := 3) (d := some 63) (v := ?_) (by kernel_rfl) (by kernel_rfl) (by kernel_rfl) (by kernel_rfl) (by kernel_rfl) (fun _ _ _ h => h) (fun o ho => ?_) hS0 ?_
  rotate_left
  · simp only [List.getElem?_toArray, List.getElem?_cons_zero, List.getElem?_cons_succ, Option.some.injEq] at ho
    subst ho
    refine Or.inl ⟨by rfl, fun w' hSw => ?_⟩
    obtain ⟨hSw0, hSw1, hSw2, hSw3, hSw4, hSw5, hSw6⟩ := hSw
    go_simp
    try with_reducible rfl
  try simp only [Act.put, List.setIfInBounds_toArray, List.set_cons_zero, List.set_cons_succ]
  refine till_at (i := 4) (d := some 64) (v := ?_) (by kernel_rfl) (by kernel_rfl) (by kernel_rfl) (by kernel_rfl) (by kernel_rfl) (fun _ _ _ h => h) (fun o ho => ?_) hS0 ?_
  rotate_left
  · simp only [List.getElem?_toArray, List.getElem?_cons_zero, List.getElem?_cons_succ, Option.some.injEq] at ho
    subst ho
    refine Or.inl ⟨by rfl, fun w' hSw => ?_⟩
    obtain ⟨hSw0, hSw1, hSw2, hSw3, hSw4, hSw5, hSw6⟩ := hSw
    go_simp
    try with_reducible rfl
  try simp only [Act.put, List.setIfInBounds_toArray, List.set_cons_zero, List.set_cons_succ]
  refine till_at (i := 5) (d := some 65) (v := ?_) (by kernel_rfl) (by kernel_rfl) (by kernel_rfl) (by kernel_rfl) (by kernel_rfl) (fun _ _ _ h => h) (fun o ho => ?_) hS0 ?_
  rotate_left
  · simp only [List.getElem?_toArray, List.getElem?_cons_zero, List.getElem?_cons_succ, Option.some.injEq] at ho
    subst ho
    refine Or.inl ⟨by rfl, fun w' hSw => ?_⟩
    obtain ⟨hSw0, hSw1, hSw2, hSw3, hSw4, hSw5, hSw6⟩ := hSw
    go_simp
    try with_reducible rfl
  try simp only [Act.put, List.setIfInBounds_toArray, List.set_cons_zero, List.set_cons_succ]
  refine till_at (i := 6) (d := some 66) (v := ?_) (by kernel_rfl) (by kernel_rfl) (by kernel_rfl) (by kernel_rfl) (by kernel_rfl) (fun _ _ _ h => h) (fun o ho => ?_) hS0 ?_
  rotate_left
  · simp only [List.getElem?_toArray, List.getElem?_cons_zero, List.getElem?_cons_succ, Option.some.injEq] at ho
    subst ho
    refine Or.inl ⟨by rfl, fun w' hSw => ?_⟩
    obtain ⟨hSw0, hSw1, hSw2, hSw3, hSw4, hSw5, hSw6⟩ := hSw
    go_simp
    try with_reducible rfl
  try simp only [Act.put, List.setIfInBounds_toArray, List.set_cons_zero, List.set_cons_succ]
  refine till_at (i := 7) (d := some 67) (v := ?_) (by kernel_rfl) (by kernel_rfl) (by kernel_rfl) (by kernel_rfl) (by kernel_rfl) (fun _ _ _ h => h) (fun o ho => ?_) hS0 ?_
  rotate_left
  · simp only [List.getElem?_toArray, List.getElem?_cons_zero, List.getElem?_cons_succ, Option.some.injEq] at ho
    subst ho
    refine Or.inl ⟨by rfl, fun w' hSw => ?_⟩
    obtain ⟨hSw0, hSw1, hSw2, hSw3, hSw4, hSw5, hSw6⟩ := hSw
    go_simp
    try with_reducible rfl
  try simp only [Act.put, List.setIfInBounds_toArray, List.set_cons_zero, List.set_cons_succ]
  refine till_at (i := 8) (d := some 68) (v := ?_) (by kernel_rfl) (by kernel_rfl) (by kernel_rfl) (by kernel_rfl) (by kernel_rfl) (fun _ _ _ h => h) (fun o ho => ?_) hS0 ?_
  rotate_left
  · simp only [List.getElem?_toArray, List.getElem?_cons_zero, List.getElem?_cons_succ, Option.some.injEq] at ho
    subst ho
    refine Or.inl ⟨by rfl, fun w' hSw => ?_⟩
    obtain ⟨hSw0, hSw1, hSw2, hSw3, hSw4, hSw5, hSw6⟩ := hSw
    go_simp
    try with_reducible rfl
  try simp only [Act.put, List.setIfInBounds_toArray, List.set_cons_zero, List.set_cons_succ]
  refine till_at (i := 9) (d := some 69) (v := ?_) (by kernel_rfl) (by kernel_rfl) (by kernel_rfl) (by kernel_rfl) (by kernel_rfl) (fun _ _ _ h => h) (fun o ho => ?_) hS0 ?_
  rotate_left
  · simp only [List.getElem?_toArray, List.getElem?_cons_zero, List.getElem?_cons_succ, Option.some.injEq] at ho
    subst ho
    refine Or.inl ⟨by rfl, fun w' hSw => ?_⟩
    obtain ⟨hSw0, hSw1, hSw2, hSw3, hSw4, hSw5, hSw6⟩ := hSw
    go_simp
    try with_reducible rfl
  try simp only [Act.put, List.setIfInBounds_toArray, List.set_cons_zero, List.set_cons_succ]
  refine till_at (i := 10) (d := some 70) (v := ?_) (by kernel_rfl) (by kernel_rfl) (by kernel_rfl) (by kernel_rfl) (by kernel_rfl) (fun _ _ _ h => h) (fun o ho => ?_) hS0 ?_
  rotate_left
  · simp only [List.getElem?_toArray, List.getElem?_cons_zero, List.getElem?_cons_succ, Option.some.injEq] at ho
    subst ho
    refine Or.inl ⟨by rfl, fun w' hSw => ?_⟩
    obtain ⟨hSw0, hSw1, hSw2, hSw3, hSw4, hSw5, hSw6⟩ := hSw
    go_simp
    try with_reducible rfl
  try simp only [Act.put, List.setIfInBounds_toArray, List.set_cons_zero, List.set_cons_succ]
  refine till_at (i := 11) (d := some 71) (v := ?_) (by kernel_rfl) (by kernel_rfl) (by kernel_rfl) (by kernel_rfl) (by kernel_rfl) (fun _ _ _ h => h) (fun o ho => ?_) hS0 ?_
  rotate_left
  · simp only [List.getElem?_toArray, List.getElem?_cons_zero, List.getElem?_cons_succ, Option.some.injEq] at ho
    subst ho
    refine Or.inl ⟨by rfl, fun w' hSw => ?_⟩
    obtain ⟨hSw0, hSw1, hSw2, hSw3, hSw4, hSw5, hSw6⟩ := hSw
    go_simp
    try with_reducible rfl
  try simp only [Act.put, List.setIfInBounds_toArray, List.set_cons_zero, List.set_cons_succ]
  refine till_at (i := 12) (d := some 72) (v := ?_) (by kernel_rfl) (by kernel_rfl) (by kernel_rfl) (by kernel_rfl) (by kernel_rfl) (fun _ _ _ h => h) (fun o ho => ?_) hS0 ?_
  rotate_left
  · simp only [List.getElem?_toArray, List.getElem?_cons_zero, List.getElem?_cons_succ, Option.some.injEq] at ho
    subst ho
    refine Or.inl ⟨by rfl, fun w' hSw => ?_⟩
    obtain ⟨hSw0, hSw1, hSw2, hSw3, hSw4, hSw5, hSw6⟩ := hSw
    go_simp
    try with_reducible rfl
  try simp only [Act.put, List.setIfInBounds_toArray, List.set_cons_zero, List.set_cons_succ]
  refine till_at (i := 13) (d := some 73) (v := ?_) (by kernel_rfl) (by kernel_rfl) (by kernel_rfl) (by kernel_rfl) (by kernel_rfl) (fun _ _ _ h => h) (fun o ho => ?_) hS0 ?_
  rotate_left
  · simp only [List.getElem?_toArray, List.getElem?_cons_zero, List.getElem?_cons_succ, Option.some.injEq] at ho
    subst ho
    refine Or.inl ⟨by rfl, fun w' hSw => ?_⟩
    obtain ⟨hSw0, hSw1, hSw2, hSw3, hSw4, hSw5, hSw6⟩ := hSw
    go_simp
    try with_reducible rfl
  try simp only [Act.put, List.setIfInBounds_toArray, List.set_cons_zero, List.set_cons_succ]
  refine till_at (i := 14) (d := some 74) (v := ?_) (by kernel_rfl) (by kernel_rfl) (by kernel_rfl) (by kernel_rfl) (by kernel_rfl) (fun _ _ _ h => h) (fun o ho => ?_) hS0 ?_
  rotate_left
  · simp only [List.getElem?_toArray, List.getElem?_cons_zero, List.getElem?_cons_succ, Option.some.injEq] at ho
    subst ho
    refine Or.inl ⟨by rfl, fun w' hSw => ?_⟩
    obtain ⟨hSw0, hSw1, hSw2, hSw3, hSw4, hSw5, hSw6⟩ := hSw
    go_simp
    try with_reducible rfl
  try simp only [Act.put, List.setIfInBounds_toArray, List.set_cons_zero, List.set_cons_succ]
  refine till_at (i := 15) (d := some 75) (v := ?_) (by kernel_rfl) (by kernel_rfl) (by kernel_rfl) (by kernel_rfl) (by kernel_rfl) (fun _ _ _ h => h) (fun o ho => ?_) hS0 ?_
  rotate_left
  · simp only [List.getElem?_toArray, List.getElem?_cons_zero, List.getElem?_cons_succ, Option.some.injEq] at ho
    subst ho
    refine Or.inl ⟨by rfl, fun w' hSw => ?_⟩
    obtain ⟨hSw0, hSw1, hSw2, hSw3, hSw4, hSw5, hSw6⟩ := hSw
    go_simp
    try with_reducible rfl
  try simp only [Act.put, List.setIfInBounds_toArray, List.set_cons_zero, List.set_cons_succ]
  refine till_at (i := 16) (d := some 76) (v := ?_) (by kernel_rfl) (by kernel_rfl) (by kernel_rfl) (by kernel_rfl) (by kernel_rfl) (fun _ _ _ h => h) (fun o ho => ?_) hS0 ?_
  rotate_left
  · simp only [List.getElem?_toArray, List.getElem?_cons_zero, List.getElem?_cons_succ, Option.some.injEq] at ho
    subst ho
    refine Or.inl ⟨by rfl, fun w' hSw => ?_⟩
    obtain ⟨hSw0, hSw1, hSw2, hSw3, hSw4, hSw5, hSw6⟩ := hSw
    go_simp
    try with_reducible rfl
  try simp only [Act.put, List.setIfInBounds_toArray, List.set_cons_zero, List.set_cons_succ]
  refine till_at (i := 17) (d := some 77) (v := ?_) (by kernel_rfl) (by kernel_rfl) (by kernel_rfl) (by kernel_rfl) (by kernel_rfl) (fun _ _ _ h => h) (fun o ho => ?_) hS0 ?_
  rotate_left
  · simp only [List.getElem?_toArray, List.getElem?_cons_zero, List.getElem?_cons_succ, Option.some.injEq] at ho
    subst ho
    refine Or.inl ⟨by rfl, fun w' hSw => ?_⟩
    obtain ⟨hSw0, hSw1, hSw2, hSw3, hSw4, hSw5, hSw6⟩ := hSw
    go_simp
    try with_reducible rfl
  try simp only [Act.put, List.setIfInBounds_toArray, List.set_cons_zero, List.set_cons_succ]
  refine till_at (i := 18) (d := some 78) (v := ?_) (by kernel_rfl) (by kernel_rfl) (by kernel_rfl) (by kernel_rfl) (by kernel_rfl) (fun _ _ _ h => h) (fun o ho => ?_) hS0 ?_
  rotate_left
  · simp only [List.getElem?_toArray, List.getElem?_cons_zero, List.getElem?_cons_succ, Option.some.injEq] at ho
    subst ho
    refine Or.inl ⟨by rfl, fun w' hSw => ?_⟩
    obtain ⟨hSw0, hSw1, hSw2, hSw3, hSw4, hSw5, hSw6⟩ := hSw
    go_simp
    try with_reducible rfl
  try simp only [Act.put, List.setIfInBounds_toArray, List.set_cons_zero, List.set_cons_succ]
  refine till_at (i := 19) (d := some 79) (v := ?_) (by kernel_rfl) (by kernel_rfl) (by kernel_rfl) (by kernel_rfl) (by kernel_rfl) (fun _ _ _ h => h) (fun o ho => ?_) hS0 ?_
  rotate_left
  · simp only [List.getElem?_toArray, List.getElem?_cons_zero, List.getElem?_cons_succ, Option.some.injEq] at ho
    subst ho
    refine Or.inl ⟨by rfl, fun w' hSw => ?_⟩
    obtain ⟨hSw0, hSw1, hSw2, hSw3, hSw4, hSw5, hSw6⟩ := hSw
    go_simp
    try with_reducible rfl
  try simp only [Act.put, List.setIfInBounds_toArray, List.set_cons_zero, List.set_cons_succ]
  refine till_at (i := 20) (d := some 80) (v := ?_) (by kernel_rfl) (by kernel_rfl) (by kernel_rfl) (by kernel_rfl) (by kernel_rfl) (fun _ _ _ h => h) (fun o ho => ?_) hS0 ?_
  rotate_left
  · simp only [List.getElem?_toArray, List.getElem?_cons_zero, List.getElem?_cons_succ, Option.some.injEq] at ho
    subst ho
    refine Or.inl ⟨by rfl, fun w' hSw => ?_⟩
    obtain ⟨hSw0, hSw1, hSw2, hSw3, hSw4, hSw5, hSw6⟩ := hSw
    go_simp
    try with_reducible rfl
  try simp only [Act.put, List.setIfInBounds_toArray, List.set_cons_zero, List.set_cons_succ]
  refine till_step (i := 21) (by kernel_rfl) (by kernel_rfl) (fun o ho K' hK => ?_)
  simp only [List.getElem?_toArray, List.getElem?_cons_zero, List.getElem?_cons_succ, Option.some.injEq] at ho
  subst ho
  go_simp
  have hS21 := (show (w6.drew.alloc (.cells #[.int .i64 y0, .int .i64 y1, .int .i64 y2, .int .i64 y3, .int .i64 y4, .int .i64 y5] 31)).cell? ⟨w4.heap.size, 5, none⟩ = some hv ∧ (w6.drew.alloc (.cells #[.int .i64 y0, .int .i64 y1, .int .i64 y2, .int .i64 y3, .int .i64 y4, .int .i64 y5] 31)).cell? ⟨nb, 0, none⟩ = some (.int .i64 y0) ∧ (w6.drew.alloc (.cells #[.int .i64 y0, .int .i64 y1, .int .i64 y2, .int .i64 y3, .int .i64 y4, .int .i64 y5] 31)).cell? ⟨nb, 1, none⟩ = some (.int .i64 y1) ∧ (w6.drew.alloc (.cells #[.int .i64 y0, .int .i64 y1, .int .i64 y2, .int .i64 y3, .int .i64 y4, .int .i64 y5] 31)).cell? ⟨nb, 2, none⟩ = some (.int .i64 y2) ∧ (w6.drew.alloc (.cells #[.int .i64 y0, .int .i64 y1, .int .i64 y2, .int .i64 y3, .int .i64 y4, .int .i64 y5] 31)).cell? ⟨nb, 3, none⟩ = some (.int .i64 y3) ∧ (w6.drew.alloc (.cells #[.int .i64 y0, .int .i64 y1, .int .i64 y2, .int .i64 y3, .int .i64 y4, .int .i64 y5] 31)).cell? ⟨nb, 4, none⟩ = some (.int .i64 y4) ∧ (w6.drew.alloc (.cells #[.int .i64 y0, .int .i64 y1, .int .i64 y2, .int .i64 y3, .int .i64 y4, .int .i64 y5] 31)).cell? ⟨nb, 5, none⟩ = some (.int .i64 y5) from ⟨hal6.cell g6, hal6.cell g0, hal6.cell g1, hal6.cell g2, hal6.cell g3, hal6.cell g4, hal6.cell g5⟩)
  refine hK.out _ _ (fun _ => hS21) (fun _ => ?_)
  clear hK K'
  try simp only [Act.put, List.setIfInBounds_toArray, List.set_cons_zero, List.set_cons_succ]
  refine till_step (i := 22) (by kernel_rfl) (by kernel_rfl) (fun o ho K' hK => ?_)
  simp only [List.getElem?_toArray, List.getElem?_cons_zero, List.getElem?_cons_succ, Option.some.injEq] at ho
  subst ho
  refine step_push_at E_houses (by rfl) _ _ (by rfl) (w4.heap.size + 1) (by rfl) (owns_ext HO.out hx6.drew) (by rfl) (by rfl) (by rfl) (by simp [Value.oneCell']) ?_ HSZ.out.1 HSZ.out.2 hz6
  intro g cap w9 hown9 hg9 hloc9
  have hlo9 := fun k hk => owns_block HO.out k hk
  have hx9 : Ext w4 w9 := (((hx.trans hx6).drew).alloc _).grown hg9 (fun k hk => by have := hlo9 k hk; omega)
  have hlt9 := (Array.getElem?_eq_some_iff.1 HRB6.out).1
  have hrb9 : w9.heap[w4.heap.size]? = some (boxR8 p x0 x1 x2 x3 hv 0 0) := (hg9.block w4.heap.size (by rw [World.size_alloc]; exact Nat.lt_succ_of_lt hlt9) (fun e => by have := hlo9 _ e.symm; omega)).trans ((((Ext.refl w6).drew.alloc _).block hlt9).trans HRB6.out)
  have hv9 := (owns_ext HV9.out (((Ext.refl w6).drew).alloc (.cells #[.int .i64 y0, .int .i64 y1, .int .i64 y2, .int .i64 y3, .int .i64 y4, .int .i64 y5] 31))).kept hg9 (.inr (fun e => by have := HHV.out nb e.symm; have := (World.ownsRow.lt HV9.out nb rfl).1; omega))
  have hyc := cells_six hv9
  have hrow9 : g ≠ w4.heap.size := fun e => by have := (World.ownsRow.lt hown9 g rfl).1; omega
  have HB9 := Lib.hid (And.intro hown9 (And.intro hrb9 (And.intro hx9 hrow9)))
  have h59 := (box_cell5 hrb9).1
  have f59 := (box_cell5 hrb9).2
  clear hown9 hg9 hloc9 hlo9 hrb9 hlt9 hv9 hrow9
  have hS22 := (show w9.cell? ⟨w4.heap.size, 5, none⟩ = some hv ∧ w9.cell? ⟨nb, 0, none⟩ = some (.int .i64 y0) ∧ w9.cell? ⟨nb, 1, none⟩ = some (.int .i64 y1) ∧ w9.cell? ⟨nb, 2, none⟩ = some (.int .i64 y2) ∧ w9.cell? ⟨nb, 3, none⟩ = some (.int .i64 y3) ∧ w9.cell? ⟨nb, 4, none⟩ = some (.int .i64 y4) ∧ w9.cell? ⟨nb, 5, none⟩ = some (.int .i64 y5) from ⟨h59, hyc⟩)
  refine hK.out _ _ (fun _ => hS22) (fun _ => ?_)
  clear hK K'
  try simp only [Act.put, List.setIfInBounds_toArray, List.set_cons_zero, List.set_cons_succ]
  refine till_at (i := 23) (d := some 83) (v := ?_) (by kernel_rfl) (by kernel_rfl) (by kernel_rfl) (by kernel_rfl) (by kernel_rfl) (fun _ _ _ h => h) (fun o ho => ?_) hS22 ?_
  rotate_left
  · simp only [List.getElem?_toArray, List.getElem?_cons_zero, List.getElem?_cons_succ, Option.some.injEq] at ho
    subst ho
    refine Or.inl ⟨by rfl, fun w' hSw => ?_⟩
    obtain ⟨hSw0, hSw1, hSw2, hSw3, hSw4, hSw5, hSw6⟩ := hSw
    go_simp
    try with_reducible rfl
  try simp only [Act.put, List.setIfInBounds_toArray, List.set_cons_zero, List.set_cons_succ]
  refine till_step (i := 24) (by kernel_rfl) (by kernel_rfl) (fun o ho K' hK => ?_)
  simp only [List.getElem?_toArray, List.getElem?_cons_zero, List.getElem?_cons_succ, Option.some.injEq] at ho
  subst ho
  go_simp
  refine hK.out _ _ (fun h => absurd rfl h) (fun _ => ?_)
  clear hK K'
  try simp only [Act.put, List.setIfInBounds_toArray, List.set_cons_zero, List.set_cons_succ]
  refine till_done (by kernel_rfl) ?_ _
  refine NoPanic.normal ?_
  try simp only [Act.put, List.setIfInBounds_toArray, List.set_cons_zero, List.set_cons_succ]
  have hxF : Ext w4 (w9.setCell ⟨w4.heap.size, 5, none⟩ (.slice (some ⟨g, 0, none⟩) (j + 1) cap)) := HB9.out.2.2.1.setCell (by simp only; omega) _
  have hrF := box_put5 HB9.out.2.1 (.slice (some ⟨g, 0, none⟩) (j + 1) cap)
  have hoF := ownsRow_setCell_other HB9.out.1 (a := ⟨w4.heap.size, 5, none⟩) (by simp [Value.ownBlock]; exact HB9.out.2.2.2) (.slice (some ⟨g, 0, none⟩) (j + 1) cap)
  have hoF2 : (w9.setCell ⟨w4.heap.size, 5, none⟩ (.slice (some ⟨g, 0, none⟩) (j + 1) cap)).ownsRow (w4.heap.size + 1) 31 6 (.slice (some ⟨g, 0, none⟩) (j + 1) cap) (j + 1) ((housesOf s (j + 1)).flatMap House.cells) := by
    rw [← HHS.out]; exact hoF
  have HFF := Lib.hid (And.intro hoF2 (And.intro hrF hxF))
  clear hoF hoF2 hrF hxF h59 f59 hyc hS0 hS21 hS22
  go_wp2
  exact HR.out _ _ _ _ _ _ _ _ _ _ _ _ _ _ _ _ _ _ _ _ _ _ _ _ _ _ _ _ _ _ _ _ _ _ ⟨HFF.out.1, HFF.out.2.1, HAL.out, HFF.out.2.2⟩
set_option maxRecDepth 1000000 in
set_option maxHeartbeats 64000000 in
theorem readl_exit {K : Act → World → Prop} (s : List UInt8) (w w1 w4 : World) (b L nn vb vo vc : Nat) (p x0 x1 x2 x3 : Int) (_h : ReadAt s w w1 w4 b L nn vb vo vc p x0 x1 x2 x3) (c1 c5 c7 c10 c11 c12 c13 c14 c15 c16 c17 c18 c19 c20 c21 c22 c23 c24 c25 c26 c27 c28 c29 c30 c31 c32 c33 c34 c35 c36 c37 c38 c39 c40 c41 c42 c43 c44 c45 c46 c47 c48 c49 c50 c51 c85 c86 c87 c88 c89 c90 c91 c92 c93 c94 c95 c96 c97 c98 c99 c100 c101 c102 c103 c104 c105 c106 c107 u8 u9 u55 u56 u57 u58 u59 u60 u61 u62 u63 u64 u65 u66 u67 u68 u69 u70 u71 u72 u73 u74 u75 u76 u77 u78 u79 u80 u81 u82 u83 u84 : Value) (R : Act → World → Prop) (wr : World) (hK : K ⟨#[strV s, c1, .pointer (some ⟨w.heap.size, 0, none⟩), .slice (some ⟨b, 0, none⟩) L L, .slice (some ⟨vb, vo, none⟩) 2 vc, c5, .pointer (some ⟨w4.heap.size, 0, none⟩), c7, u8, u9, c10, c11, c12, c13, c14, c15, c16, c17, c18, c19, c20, c21, c22, c23, c24, c25, c26, c27, c28, c29, c30, c31, c32, c33, c34, c35, c36, c37, c38, c39, c40, c41, c42, c43, c44, c45, c46, c47, c48, c49, c50, c51, .slice (some ⟨b, 2, none⟩) nn (L - 2), .int .i64 (nn : Int), .int .i64 (nn : Int), .bool false, u56, u57, u58, u59, u60, u61, u62, u63, u64, u65, u66, u67, u68, u69, u70, u71, u72, u73, u74, u75, u76, u77, u78, u79, u80, u81, u82, u83, u84, c85, c86, c87, c88, c89, c90, c91, c92, c93, c94, c95, c96, c97, c98, c99, c100, c101, c102, c103, c104, c105, c106, c107], []⟩ wr) : Code.wp Tryz.prog readBody (Exit.then R (Exit.inBlock 0 (Exit.then K (bodyPost Tryz.prog Tryz.f52 (ReadPost s w))))) ⟨#[strV s, c1, .pointer (some ⟨w.heap.size, 0, none⟩), .slice (some ⟨b, 0, none⟩) L L, .slice (some ⟨vb, vo, none⟩) 2 vc, c5, .pointer (some ⟨w4.heap.size, 0, none⟩), c7, u8, u9, c10, c11, c12, c13, c14, c15, c16, c17, c18, c19, c20, c21, c22, c23, c24, c25, c26, c27, c28, c29, c30, c31, c32, c33, c34, c35, c36, c37, c38, c39, c40, c41, c42, c43, c44, c45, c46, c47, c48, c49, c50, c51, .slice (some ⟨b, 2, none⟩) nn (L - 2), .int .i64 (nn : Int), .int .i64 (nn : Int), u55, u56, u57, u58, u59, u60, u61, u62, u63, u64, u65, u66, u67, u68, u69, u70, u71, u72, u73, u74, u75, u76, u77, u78, u79, u80, u81, u82, u83, u84, c85, c86, c87, c88, c89, c90, c91, c92, c93, c94, c95, c96, c97, c98, c99, c100, c101, c102, c103, c104, c105, c106, c107], []⟩ wr := by
  have HK := Lib.hid hK
  clear hK
  conv => arg 2; whnf
  have x1' : decide ((nn : Int) < (nn : Int)) = false := by simp
  have hmix : Tryz.prog.follows .mixedOrders = true := by kernel_rfl
  go_wp2
  exact HK.out
set_option maxRecDepth 1000000 in
set_option maxHeartbeats 64000000 in
theorem readl_round {K : Act → World → Prop} (s : List UInt8) (w w1 w4 : World) (b L nn vb vo vc : Nat) (p x0 x1 x2 x3 : Int) (h : ReadAt s w w1 w4 b L nn vb vo vc p x0 x1 x2 x3) (c1 c5 c7 c10 c11 c12 c13 c14 c15 c16 c17 c18 c19 c20 c21 c22 c23 c24 c25 c26 c27 c28 c29 c30 c31 c32 c33 c34 c35 c36 c37 c38 c39 c40 c41 c42 c43 c44 c45 c46 c47 c48 c49 c50 c51 c85 c86 c87 c88 c89 c90 c91 c92 c93 c94 c95 c96 c97 c98 c99 c100 c101 c102 c103 c104 c105 c106 c107 : Value) (hK : ∀ a w', ReadX s w w1 w4 b L nn vb vo vc p x0 x1 x2 x3 c1 c5 c7 c10 c11 c12 c13 c14 c15 c16 c17 c18 c19 c20 c21 c22 c23 c24 c25 c26 c27 c28 c29 c30 c31 c32 c33 c34 c35 c36 c37 c38 c39 c40 c41 c42 c43 c44 c45 c46 c47 c48 c49 c50 c51 c85 c86 c87 c88 c89 c90 c91 c92 c93 c94 c95 c96 c97 c98 c99 c100 c101 c102 c103 c104 c105 c106 c107 a w' → K a w') (a : Act) (w' : World) (hI : ReadI s w w1 w4 b L nn vb vo vc p x0 x1 x2 x3 c1 c5 c7 c10 c11 c12 c13 c14 c15 c16 c17 c18 c19 c20 c21 c22 c23 c24 c25 c26 c27 c28 c29 c30 c31 c32 c33 c34 c35 c36 c37 c38 c39 c40 c41 c42 c43 c44 c45 c46 c47 c48 c49 c50 c51 c85 c86 c87 c88 c89 c90 c91 c92 c93 c94 c95 c96 c97 c98 c99 c100 c101 c102 c103 c104 c105 c106 c107 a w') : Code.wp Tryz.prog readBody (Exit.then (fun a' w'' => ReadI s w w1 w4 b L nn vb vo vc p x0 x1 x2 x3 c1 c5 c7 c10 c11 c12 c13 c14 c15 c16 c17 c18 c19 c20 c21 c22 c23 c24 c25 c26 c27 c28 c29 c30 c31 c32 c33 c34 c35 c36 c37 c38 c39 c40 c41 c42 c43 c44 c45 c46 c47 c48 c49 c50 c51 c85 c86 c87 c88 c89 c90 c91 c92 c93 c94 c95 c96 c97 c98 c99 c100 c101 c102 c103 c104 c105 c106 c107 a' w'' ∧ readMu nn a' w'' < readMu nn a w') (Exit.inBlock 0 (Exit.then K (bodyPost Tryz.prog Tryz.f52 (ReadPost s w))))) a w' := by
  unfold ReadI at hI
  obtain ⟨u8, hI⟩ := hI
  obtain ⟨u9, hI⟩ := hI
  obtain ⟨u54, hI⟩ := hI
  obtain ⟨u55, hI⟩ := hI
  obtain ⟨u56, hI⟩ := hI
  obtain ⟨u57, hI⟩ := hI
  obtain ⟨u58, hI⟩ := hI
  obtain ⟨u59, hI⟩ := hI
  obtain ⟨u60, hI⟩ := hI
  obtain ⟨u61, hI⟩ := hI
  obtain ⟨u62, hI⟩ := hI
  obtain ⟨u63, hI⟩ := hI
  obtain ⟨u64, hI⟩ := hI
  obtain ⟨u65, hI⟩ := hI
  obtain ⟨u66, hI⟩ := hI
  obtain ⟨u67, hI⟩ := hI
  obtain ⟨u68, hI⟩ := hI
  obtain ⟨u69, hI⟩ := hI
  obtain ⟨u70, hI⟩ := hI
  obtain ⟨u71, hI⟩ := hI
  obtain ⟨u72, hI⟩ := hI
  obtain ⟨u73, hI⟩ := hI
  obtain ⟨u74, hI⟩ := hI
  obtain ⟨u75, hI⟩ := hI
  obtain ⟨u76, hI⟩ := hI
  obtain ⟨u77, hI⟩ := hI
  obtain ⟨u78, hI⟩ := hI
  obtain ⟨u79, hI⟩ := hI
  obtain ⟨u80, hI⟩ := hI
  obtain ⟨u81, hI⟩ := hI
  obtain ⟨u82, hI⟩ := hI
  obtain ⟨u83, hI⟩ := hI
  obtain ⟨u84, hI⟩ := hI
  obtain ⟨⟨j, hv, hj, rfl, hown, hrb, hall, hx⟩, rfl⟩ := hI
  by_cases hlt : j < nn
  · cases q2 : toldOk wHouse 6 (lineAt s (j + 2)) with
    | false => exact readl_no s w w1 w4 b L nn vb vo vc p x0 x1 x2 x3 h c1 c5 c7 c10 c11 c12 c13 c14 c15 c16 c17 c18 c19 c20 c21 c22 c23 c24 c25 c26 c27 c28 c29 c30 c31 c32 c33 c34 c35 c36 c37 c38 c39 c40 c41 c42 c43 c44 c45 c46 c47 c48 c49 c50 c51 c85 c86 c87 c88 c89 c90 c91 c92 c93 c94 c95 c96 c97 c98 c99 c100 c101 c102 c103 c104 c105 c106 c107 u8 u9 u55 u56 u57 u58 u59 u60 u61 u62 u63 u64 u65 u66 u67 u68 u69 u70 u71 u72 u73 u74 u75 u76 u77 u78 u79 u80 u81 u82 u83 u84 _ w' j hlt hx q2
    | true =>
      refine readl_yes s w w1 w4 b L nn vb vo vc p x0 x1 x2 x3 h c1 c5 c7 c10 c11 c12 c13 c14 c15 c16 c17 c18 c19 c20 c21 c22 c23 c24 c25 c26 c27 c28 c29 c30 c31 c32 c33 c34 c35 c36 c37 c38 c39 c40 c41 c42 c43 c44 c45 c46 c47 c48 c49 c50 c51 c85 c86 c87 c88 c89 c90 c91 c92 c93 c94 c95 c96 c97 c98 c99 c100 c101 c102 c103 c104 c105 c106 c107 u8 u9 u55 u56 u57 u58 u59 u60 u61 u62 u63 u64 u65 u66 u67 u68 u69 u70 u71 u72 u73 u74 u75 u76 u77 u78 u79 u80 u81 u82 u83 u84 _ w' j hv hlt ⟨hown, hrb, hall, hx⟩ q2 (fun y8 y9 y55 y56 y57 y58 y59 y60 y61 y62 y63 y64 y65 y66 y67 y68 y69 y70 y71 y72 y73 y74 y75 y76 y77 y78 y79 y80 y81 y82 y83 y84 hv' wr' hr => ⟨?_, by simp [readMu, intOf]; omega⟩)
      unfold ReadI
      exact ⟨y8, y9, _, y55, y56, y57, y58, y59, y60, y61, y62, y63, y64, y65, y66, y67, y68, y69, y70, y71, y72, y73, y74, y75, y76, y77, y78, y79, y80, y81, y82, y83, y84, ⟨j + 1, hv', by omega, by simp, hr⟩, rfl⟩
  · have hje : j = nn := by omega
    subst hje
    refine readl_exit s w w1 w4 b L j vb vo vc p x0 x1 x2 x3 h c1 c5 c7 c10 c11 c12 c13 c14 c15 c16 c17 c18 c19 c20 c21 c22 c23 c24 c25 c26 c27 c28 c29 c30 c31 c32 c33 c34 c35 c36 c37 c38 c39 c40 c41 c42 c43 c44 c45 c46 c47 c48 c49 c50 c51 c85 c86 c87 c88 c89 c90 c91 c92 c93 c94 c95 c96 c97 c98 c99 c100 c101 c102 c103 c104 c105 c106 c107 u8 u9 u55 u56 u57 u58 u59 u60 u61 u62 u63 u64 u65 u66 u67 u68 u69 u70 u71 u72 u73 u74 u75 u76 u77 u78 u79 u80 u81 u82 u83 u84 _ w' (hK _ _ ?_)
    unfold ReadX
    exact ⟨_, _, _, _, _, _, _, _, _, _, _, _, _, _, _, _, _, _, _, _, _, _, _, _, _, _, _, _, _, _, _, _, _, hv, ⟨hown, hrb, hall, hx⟩, rfl⟩
set_option maxRecDepth 1000000 in
set_option maxHeartbeats 64000000 in
theorem readl_loop {K : Act → World → Prop} (s : List UInt8) (w w1 w4 : World) (b L nn vb vo vc : Nat) (p x0 x1 x2 x3 : Int) (h : ReadAt s w w1 w4 b L nn vb vo vc p x0 x1 x2 x3) (c1 c5 c7 c10 c11 c12 c13 c14 c15 c16 c17 c18 c19 c20 c21 c22 c23 c24 c25 c26 c27 c28 c29 c30 c31 c32 c33 c34 c35 c36 c37 c38 c39 c40 c41 c42 c43 c44 c45 c46 c47 c48 c49 c50 c51 c85 c86 c87 c88 c89 c90 c91 c92 c93 c94 c95 c96 c97 c98 c99 c100 c101 c102 c103 c104 c105 c106 c107 u8 u9 u54 u55 u56 u57 u58 u59 u60 u61 u62 u63 u64 u65 u66 u67 u68 u69 u70 u71 u72 u73 u74 u75 u76 u77 u78 u79 u80 u81 u82 u83 u84 : Value) (wr : World) (hrel : ∃ (j : Nat) (hv : Value), j ≤ nn ∧ u54 = .int .i64 j ∧ wr.ownsRow (w4.heap.size + 1) 31 6 hv j ((housesOf s j).flatMap House.cells) ∧ Hid (wr.heap[w4.heap.size]? = some (boxR8 p x0 x1 x2 x3 hv 0 0)) ∧ Hid (∀ i, i < j → toldOk wHouse 6 (lineAt s (i + 2)) = true) ∧ Ext w4 wr) (hK : ∀ a w', ReadX s w w1 w4 b L nn vb vo vc p x0 x1 x2 x3 c1 c5 c7 c10 c11 c12 c13 c14 c15 c16 c17 c18 c19 c20 c21 c22 c23 c24 c25 c26 c27 c28 c29 c30 c31 c32 c33 c34 c35 c36 c37 c38 c39 c40 c41 c42 c43 c44 c45 c46 c47 c48 c49 c50 c51 c85 c86 c87 c88 c89 c90 c91 c92 c93 c94 c95 c96 c97 c98 c99 c100 c101 c102 c103 c104 c105 c106 c107 a w' → K a w') : Code.wp Tryz.prog (Code.loop readBody) (Exit.inBlock 0 (Exit.then K (bodyPost Tryz.prog Tryz.f52 (ReadPost s w)))) ⟨#[strV s, c1, .pointer (some ⟨w.heap.size, 0, none⟩), .slice (some ⟨b, 0, none⟩) L L, .slice (some ⟨vb, vo, none⟩) 2 vc, c5, .pointer (some ⟨w4.heap.size, 0, none⟩), c7, u8, u9, c10, c11, c12, c13, c14, c15, c16, c17, c18, c19, c20, c21, c22, c23, c24, c25, c26, c27, c28, c29, c30, c31, c32, c33, c34, c35, c36, c37, c38, c39, c40, c41, c42, c43, c44, c45, c46, c47, c48, c49, c50, c51, .slice (some ⟨b, 2, none⟩) nn (L - 2), .int .i64 (nn : Int), u54, u55, u56, u57, u58, u59, u60, u61, u62, u63, u64, u65, u66, u67, u68, u69, u70, u71, u72, u73, u74, u75, u76, u77, u78, u79, u80, u81, u82, u83, u84, c85, c86, c87, c88, c89, c90, c91, c92, c93, c94, c95, c96, c97, c98, c99, c100, c101, c102, c103, c104, c105, c106, c107], []⟩ wr := by
  refine wp_loop (ReadI s w w1 w4 b L nn vb vo vc p x0 x1 x2 x3 c1 c5 c7 c10 c11 c12 c13 c14 c15 c16 c17 c18 c19 c20 c21 c22 c23 c24 c25 c26 c27 c28 c29 c30 c31 c32 c33 c34 c35 c36 c37 c38 c39 c40 c41 c42 c43 c44 c45 c46 c47 c48 c49 c50 c51 c85 c86 c87 c88 c89 c90 c91 c92 c93 c94 c95 c96 c97 c98 c99 c100 c101 c102 c103 c104 c105 c106 c107) (readMu nn) ?_ (fun a w' hI => readl_round s w w1 w4 b L nn vb vo vc p x0 x1 x2 x3 h c1 c5 c7 c10 c11 c12 c13 c14 c15 c16 c17 c18 c19 c20 c21 c22 c23 c24 c25 c26 c27 c28 c29 c30 c31 c32 c33 c34 c35 c36 c37 c38 c39 c40 c41 c42 c43 c44 c45 c46 c47 c48 c49 c50 c51 c85 c86 c87 c88 c89 c90 c91 c92 c93 c94 c95 c96 c97 c98 c99 c100 c101 c102 c103 c104 c105 c106 c107 hK a w' hI)
  unfold ReadI
  exact ⟨u8, u9, u54, u55, u56, u57, u58, u59, u60, u61, u62, u63, u64, u65, u66, u67, u68, u69, u70, u71, u72, u73, u74, u75, u76, u77, u78, u79, u80, u81, u82, u83, u84, hrel, rfl⟩
end Go.Proofs.YtbeophjdiddomaaGreatDoor
