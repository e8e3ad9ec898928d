/- The reference's Read: the fold over the lines of a string, and whether what was read is written the same. -/
import Derived.Test.YtbeophjdiddomaaGreatDoorRprint
import Derived.Test.YtbeophjdiddomaaGreatDoorRsplit
import Derived.Test.YtbeophjdiddomaaGreatDoorReadl
namespace Go.Proofs.YtbeophjdiddomaaGreatDoor
open Go.RowKit

theorem box_cf0 {W : World} {b : Nat} {p x0 x1 x2 x3 : Int} {hv : Value} {x6 x7 : Int} (h : W.heap[b]? = some (boxR8 p x0 x1 x2 x3 hv x6 x7)) : W.cell? ⟨b, 0, none⟩ = some (.int .i64 p) ∧ W.frozen? ⟨b, 0, none⟩ = false := by
  constructor
  · simp [World.cell?, h]
  · simp [World.frozen?, h]
theorem box_cf13 {W : World} {b : Nat} {p x0 x1 x2 x3 : Int} {hv : Value} {x6 x7 : Int} (h : W.heap[b]? = some (boxR8 p x0 x1 x2 x3 hv x6 x7)) : (W.cell? ⟨b, 1, none⟩ = some (.int .i64 x0) ∧ W.cell? ⟨b, 2, none⟩ = some (.int .i64 x1) ∧ W.cell? ⟨b, 3, none⟩ = some (.int .i64 x2) ∧ W.cell? ⟨b, 4, none⟩ = some (.int .i64 x3)) ∧ W.frozen? ⟨b, 1, none⟩ = false ∧ W.frozen? ⟨b, 2, none⟩ = false ∧ W.frozen? ⟨b, 3, none⟩ = false ∧ W.frozen? ⟨b, 4, none⟩ = false := by
  simp [World.cell?, World.frozen?, h]
noncomputable def rreadBody : Code := ((Tryz.f22.body.bind loopIn).getD .skip)
/-- What the reference's Read answers. -/
def RReadPost (s : List UInt8) (w : World) (e : Ending) (w' : World) : Prop := ∃ v t, e = .returned (.tuple #[v, .bool t]) ∧ Ext w w' ∧ (rread s = none → t = false ∧ v = zR) ∧ ∀ r, rread s = some r → t = decide (textT r = s) ∧ RoundAt w' v r
theorem rread_results {tmps : Array Value} {W : World} {b : Nat} {c0 c1 c2 c3 c4 c5 c6 c7 v : Value} (hp : tmps.getD 2 undef = .pointer (some ⟨b, 0, none⟩)) (hq : tmps.getD 3 undef = v) (hb : W.heap[b]? = some (.cells #[c0, c1, c2, c3, c4, c5, c6, c7] 26 (0, 0))) :
    (results Tryz.f22 tmps).run Tryz.prog W = .ok (.tuple #[.agg #[c0, c1, c2, c3, c4, c5, c6, c7], v]) W := by
  have f0 : W.cell? ⟨b, 0, none⟩ = some c0 := by simp [World.cell?, hb]
  have f1 : W.cell? ⟨b, 1, none⟩ = some c1 := by simp [World.cell?, hb]
  have f2 : W.cell? ⟨b, 2, none⟩ = some c2 := by simp [World.cell?, hb]
  have f3 : W.cell? ⟨b, 3, none⟩ = some c3 := by simp [World.cell?, hb]
  have f4 : W.cell? ⟨b, 4, none⟩ = some c4 := by simp [World.cell?, hb]
  have f5 : W.cell? ⟨b, 5, none⟩ = some c5 := by simp [World.cell?, hb]
  have f6 : W.cell? ⟨b, 6, none⟩ = some c6 := by simp [World.cell?, hb]
  have f7 : W.cell? ⟨b, 7, none⟩ = some c7 := by simp [World.cell?, hb]
  rw [results_cell_tmp rfl, hp, hq]
  simp [go_sem, f0, f1, f2, f3, f4, f5, f6, f7]
/-- What is known at the loop. -/
structure RReadAt (s : List UInt8) (w w1 : World) (b L cap : Nat) : Prop where
  hs : s.length ≤ 500
  hL : (splitL 10 s).length = L
  hL1 : 1 ≤ L
  hL5 : L ≤ 501
  hx1 : Ext ((w.alloc (.cells #[.int .i64 0, .int .i64 0, .int .i64 0, .int .i64 0, .int .i64 0, .slice none 0 0, .int .i64 0, .int .i64 0] 26)).alloc (.cells #[.int .i64 0, .int .i64 0, .int .i64 0, .int .i64 0, .int .i64 0, .slice none 0 0, .int .i64 0, .int .i64 0] 26)) w1
  hst : StrsAt w1 (.slice (some ⟨b, 0, none⟩) L cap) (splitL 10 s)
  hb : w.heap.size + 2 ≤ b
/-- What has been read of some lines. -/
structure RRel (s : List UInt8) (w w1 : World) (i : Nat) (r : Round) (hv : Value) (wr : World) : Prop where
  hf : rfold s i = some r
  ho : wr.ownsRow w1.heap.size 31 6 hv r.houses.length (r.houses.flatMap House.cells)
  hb : wr.heap[w.heap.size + 1]? = some (boxR8 r.per r.lo r.hi r.card r.slack hv r.all r.off)
  ht : Touch (· = w.heap.size + 1) w1 wr
set_option maxRecDepth 1000000 in
def RReadI (s : List UInt8) (w w1 : World) (b L cap : Nat) (a : Act) (wr : World) : Prop := ∃ u6 u1 u7 u8 u9 u10 u11 u12 u13 u14 u15 u16 u17 u18 u19 u20 u21 u22 u23 u24 u25 u26 u27 u28 u29 u30 u31 u32 u33 u34 u35 u36 u37 u38 u39 u40 u41 u42 u43 u44 u45 u46 u47 u48 u49 u50 u51 u52 u53 u54 u55 u56 u57 u58 u59 u60 u61 u62 u63 u64 u65 u66 u67 u68 u69 u70 u71 u72 u73 u74 u75 u76 u77 u78 u79 u80 u81 u82 u83 u84 u85 u86 u87 u88 u89 u90 u91 u92 u93 u94 u95 u96 u97 u98 u99 u100 u101 u102 u103 u104 u105 u106 u107 u108 u109 : Value, (∃ (i : Nat) (r : Round) (hv : Value), i ≤ L - 2 ∧ u6 = .int .i64 (i : Int) ∧ RRel s w w1 i r hv wr) ∧ a = ⟨#[strV s, u1, .pointer (some ⟨w.heap.size, 0, none⟩), .bool false, .pointer (some ⟨w.heap.size + 1, 0, none⟩), .slice (some ⟨b, 0, none⟩) L cap, u6, u7, u8, u9, u10, u11, u12, u13, u14, u15, u16, u17, u18, u19, u20, u21, u22, u23, u24, u25, u26, u27, u28, u29, u30, u31, u32, u33, u34, u35, u36, u37, u38, u39, u40, u41, u42, u43, u44, u45, u46, u47, u48, u49, u50, u51, u52, u53, u54, u55, u56, u57, u58, u59, u60, u61, u62, u63, u64, u65, u66, u67, u68, u69, u70, u71, u72, u73, u74, u75, u76, u77, u78, u79, u80, u81, u82, u83, u84, u85, u86, u87, u88, u89, u90, u91, u92, u93, u94, u95, u96, u97, u98, u99, u100, u101, u102, u103, u104, u105, u106, u107, u108, u109], []⟩
set_option maxRecDepth 1000000 in
def RReadX (s : List UInt8) (w w1 : World) (b L cap : Nat) (a : Act) (wr : World) : Prop := ∃ u6 u1 u7 u8 u9 u10 u11 u12 u13 u14 u15 u16 u17 u18 u19 u20 u21 u22 u23 u24 u25 u26 u27 u28 u29 u30 u31 u32 u33 u34 u35 u36 u37 u38 u39 u40 u41 u42 u43 u44 u45 u46 u47 u48 u49 u50 u51 u52 u53 u54 u55 u56 u57 u58 u59 u60 u61 u62 u63 u64 u65 u66 u67 u68 u69 u70 u71 u72 u73 u74 u75 u76 u77 u78 u79 u80 u81 u82 u83 u84 u85 u86 u87 u88 u89 u90 u91 u92 u93 u94 u95 u96 u97 u98 u99 u100 u101 u102 u103 u104 u105 u106 u107 u108 u109 r hv, RRel s w w1 (L - 2) r hv wr ∧ a = ⟨#[strV s, u1, .pointer (some ⟨w.heap.size, 0, none⟩), .bool false, .pointer (some ⟨w.heap.size + 1, 0, none⟩), .slice (some ⟨b, 0, none⟩) L cap, u6, u7, u8, u9, u10, u11, u12, u13, u14, u15, u16, u17, u18, u19, u20, u21, u22, u23, u24, u25, u26, u27, u28, u29, u30, u31, u32, u33, u34, u35, u36, u37, u38, u39, u40, u41, u42, u43, u44, u45, u46, u47, u48, u49, u50, u51, u52, u53, u54, u55, u56, u57, u58, u59, u60, u61, u62, u63, u64, u65, u66, u67, u68, u69, u70, u71, u72, u73, u74, u75, u76, u77, u78, u79, u80, u81, u82, u83, u84, u85, u86, u87, u88, u89, u90, u91, u92, u93, u94, u95, u96, u97, u98, u99, u100, u101, u102, u103, u104, u105, u106, u107, u108, u109], []⟩
def rreadMu (L : Nat) (a : Act) (_ : World) : Nat := L - (intOf (a.tmps.getD 6 undef)).toNat
set_option maxRecDepth 1000000 in
set_option maxHeartbeats 64000000 in
theorem rreadl_exit {K : Act → World → Prop} (s : List UInt8) (w w1 : World) (b L cap : Nat) (_h : RReadAt s w w1 b L cap) (u1 u7 u8 u9 u10 u11 u12 u13 u14 u15 u16 u17 u18 u19 u20 u21 u22 u23 u24 u25 u26 u27 u28 u29 u30 u31 u32 u33 u34 u35 u36 u37 u38 u39 u40 u41 u42 u43 u44 u45 u46 u47 u48 u49 u50 u51 u52 u53 u54 u55 u56 u57 u58 u59 u60 u61 u62 u63 u64 u65 u66 u67 u68 u69 u70 u71 u72 u73 u74 u75 u76 u77 u78 u79 u80 u81 u82 u83 u84 u85 u86 u87 u88 u89 u90 u91 u92 u93 u94 u95 u96 u97 u98 u99 u100 u101 u102 u103 u104 u105 u106 u107 u108 u109 : Value) (R : Act → World → Prop) (wr : World) (i : Nat) (hi : L ≤ i + 2) (hi2 : i ≤ 600) (hK : K ⟨#[strV s, u1, .pointer (some ⟨w.heap.size, 0, none⟩), .bool false, .pointer (some ⟨w.heap.size + 1, 0, none⟩), .slice (some ⟨b, 0, none⟩) L cap, .int .i64 (i : Int), u7, u8, u9, u10, u11, u12, .int .i64 (i : Int), .int .i64 ((i : Int) + 2), .slice (some ⟨b, 0, none⟩) L cap, .int .i64 (L : Int), .bool false, u18, u19, u20, u21, u22, u23, u24, u25, u26, u27, u28, u29, u30, u31, u32, u33, u34, u35, u36, u37, u38, u39, u40, u41, u42, u43, u44, u45, u46, u47, u48, u49, u50, u51, u52, u53, u54, u55, u56, u57, u58, u59, u60, u61, u62, u63, u64, u65, u66, u67, u68, u69, u70, u71, u72, u73, u74, u75, u76, u77, u78, u79, u80, u81, u82, u83, u84, u85, u86, u87, u88, u89, u90, u91, u92, u93, u94, u95, u96, u97, u98, u99, u100, u101, u102, u103, u104, u105, u106, u107, u108, u109], []⟩ wr) : Code.wp Tryz.prog rreadBody (Exit.then R (Exit.inBlock 0 (Exit.then K (bodyPost Tryz.prog Tryz.f22 (RReadPost s w))))) ⟨#[strV s, u1, .pointer (some ⟨w.heap.size, 0, none⟩), .bool false, .pointer (some ⟨w.heap.size + 1, 0, none⟩), .slice (some ⟨b, 0, none⟩) L cap, .int .i64 (i : Int), u7, u8, u9, u10, u11, u12, u13, u14, u15, u16, u17, u18, u19, u20, u21, u22, u23, u24, u25, u26, u27, u28, u29, u30, u31, u32, u33, u34, u35, u36, u37, u38, u39, u40, u41, u42, u43, u44, u45, u46, u47, u48, u49, u50, u51, u52, u53, u54, u55, u56, u57, u58, u59, u60, u61, u62, u63, u64, u65, u66, u67, u68, u69, u70, u71, u72, u73, u74, u75, u76, u77, u78, u79, u80, u81, u82, u83, u84, u85, u86, u87, u88, u89, u90, u91, u92, u93, u94, u95, u96, u97, u98, u99, u100, u101, u102, u103, u104, u105, u106, u107, u108, u109], []⟩ wr := by
  have HK := Lib.hid hK
  clear hK
  conv => arg 2; whnf
  have E0 : IntKind.i64.wrap ((i : Int) + 2) = (i : Int) + 2 := IntWalk.i64_in _ (by omega)
  have x1 : decide ((i : Int) + 2 < (L : Int)) = false := by simp; omega
  have hmix : Tryz.prog.follows .mixedOrders = true := by kernel_rfl
  go_wp2
  exact HK.out
set_option maxRecDepth 1000000 in
set_option maxHeartbeats 64000000 in
theorem rreadl_round {K : Act → World → Prop} (s : List UInt8) (w w1 : World) (b L cap : Nat) (h : RReadAt s w w1 b L cap) (u1 u7 u8 u9 u10 u11 u12 u13 u14 u15 u16 u17 u18 u19 u20 u21 u22 u23 u24 u25 u26 u27 u28 u29 u30 u31 u32 u33 u34 u35 u36 u37 u38 u39 u40 u41 u42 u43 u44 u45 u46 u47 u48 u49 u50 u51 u52 u53 u54 u55 u56 u57 u58 u59 u60 u61 u62 u63 u64 u65 u66 u67 u68 u69 u70 u71 u72 u73 u74 u75 u76 u77 u78 u79 u80 u81 u82 u83 u84 u85 u86 u87 u88 u89 u90 u91 u92 u93 u94 u95 u96 u97 u98 u99 u100 u101 u102 u103 u104 u105 u106 u107 u108 u109 : Value) (R : Act → World → Prop) (wr : World) (i : Nat) (r : Round) (hv : Value) (hlt : i + 2 < L) (hrel : RRel s w w1 i r hv wr) (q0 : toldOk wRound 2 (lineAt s i) = true) (hR : ∀ (y1 y7 y8 y9 y10 y11 y12 y13 y14 y15 y16 y17 y18 y19 y20 y21 y22 y23 y24 y25 y26 y27 y28 y29 y30 y31 y32 y33 y34 y35 y36 y37 y38 y39 y40 y41 y42 y43 y44 y45 y46 y47 y48 y49 y50 y51 y52 y53 y54 y55 y56 y57 y58 y59 y60 y61 y62 y63 y64 y65 y66 y67 y68 y69 y70 y71 y72 y73 y74 y75 y76 y77 y78 y79 y80 y81 y82 y83 y84 y85 y86 y87 y88 y89 y90 y91 y92 y93 y94 y95 y96 y97 y98 y99 y100 y101 y102 y103 y104 y105 y106 y107 y108 y109 : Value) (r' : Round) (hv' : Value) (wr' : World), RRel s w w1 (i + 1) r' hv' wr' → R ⟨#[strV s, y1, .pointer (some ⟨w.heap.size, 0, none⟩), .bool false, .pointer (some ⟨w.heap.size + 1, 0, none⟩), .slice (some ⟨b, 0, none⟩) L cap, .int .i64 ((i : Int) + 1), y7, y8, y9, y10, y11, y12, y13, y14, y15, y16, y17, y18, y19, y20, y21, y22, y23, y24, y25, y26, y27, y28, y29, y30, y31, y32, y33, y34, y35, y36, y37, y38, y39, y40, y41, y42, y43, y44, y45, y46, y47, y48, y49, y50, y51, y52, y53, y54, y55, y56, y57, y58, y59, y60, y61, y62, y63, y64, y65, y66, y67, y68, y69, y70, y71, y72, y73, y74, y75, y76, y77, y78, y79, y80, y81, y82, y83, y84, y85, y86, y87, y88, y89, y90, y91, y92, y93, y94, y95, y96, y97, y98, y99, y100, y101, y102, y103, y104, y105, y106, y107, y108, y109], []⟩ wr') : Code.wp Tryz.prog rreadBody (Exit.then R (Exit.inBlock 0 (Exit.then K (bodyPost Tryz.prog Tryz.f22 (RReadPost s w))))) ⟨#[strV s, u1, .pointer (some ⟨w.heap.size, 0, none⟩), .bool false, .pointer (some ⟨w.heap.size + 1, 0, none⟩), .slice (some ⟨b, 0, none⟩) L cap, .int .i64 (i : Int), u7, u8, u9, u10, u11, u12, u13, u14, u15, u16, u17, u18, u19, u20, u21, u22, u23, u24, u25, u26, u27, u28, u29, u30, u31, u32, u33, u34, u35, u36, u37, u38, u39, u40, u41, u42, u43, u44, u45, u46, u47, u48, u49, u50, u51, u52, u53, u54, u55, u56, u57, u58, u59, u60, u61, u62, u63, u64, u65, u66, u67, u68, u69, u70, u71, u72, u73, u74, u75, u76, u77, u78, u79, u80, u81, u82, u83, u84, u85, u86, u87, u88, u89, u90, u91, u92, u93, u94, u95, u96, u97, u98, u99, u100, u101, u102, u103, u104, u105, u106, u107, u108, u109], []⟩ wr := by
  obtain ⟨hs, hL, hL1, hL5, hx1, hst, hbb⟩ := h
  obtain ⟨hf, ho, hb, ht⟩ := hrel
  have hw2 : Ext w ((w.alloc (.cells #[.int .i64 0, .int .i64 0, .int .i64 0, .int .i64 0, .int .i64 0, .slice none 0 0, .int .i64 0, .int .i64 0] 26)).alloc (.cells #[.int .i64 0, .int .i64 0, .int .i64 0, .int .i64 0, .int .i64 0, .slice none 0 0, .int .i64 0, .int .i64 0] 26)) := ((Ext.refl w).alloc _).alloc _
  have hxw1 : Ext w w1 := hw2.trans hx1
  have hxw : Ext w wr := Touch.ext hxw1 ht (fun k hk => by have hk' : k = w.heap.size + 1 := hk; omega)
  have hz1 := hx1.size
  simp only [World.size_alloc] at hz1
  have hzr := ht.size
  have hli : (splitL 10 s)[i]? = some (lineAt s i) := lineAt_get (by omega)
  have z0 := ht.cell (strs_cell hst hli) (by simp only; omega)
  have hls := lineAt_short s i
  have E0 : IntKind.i64.wrap ((i : Int) + 2) = (i : Int) + 2 := IntWalk.i64_in _ (by omega)
  have x1 : decide ((i : Int) + 2 < (L : Int)) = true := by simp; omega
  have x2 : (i : Int) < (L : Int) := by omega
  have x3 : (0 : Int) ≤ (i : Int) := by omega
  have x4 : i < L := by omega
  obtain ⟨hl6, -, -⟩ := told_line q0
  obtain ⟨p, n, hyy⟩ := two_of hl6
  have HYY := Lib.hid hyy
  have HT0 := Lib.hid (fun w1 => rtold_any (lineAt s i) wRound 2 w1 (by omega) ⟨by omega, by omega⟩)
  have HQ0 := Lib.hid q0
  have tok0 : True := trivial
  have HST : Hid (rstep r (lineAt s i) = some { r with per := p }) := by unfold Hid rstep; rw [if_pos q0, hyy]; rfl
  have HF : Hid (rfold s (i + 1) = some { r with per := p }) := by unfold Hid; rw [rfold_succ hf]; exact HST.out
  have HRR := Lib.hid hR
  have HO := Lib.hid ho
  have HB := Lib.hid hb
  have HTT := Lib.hid ht
  have hltr := (Array.getElem?_eq_some_iff.1 hb).1
  have hmix : Tryz.prog.follows .mixedOrders = true := by kernel_rfl
  clear q0 hyy hl6 hR hf ho hb ht hst hL hs hxw hxw1 hw2 hx1 HST
  conv => arg 2; whnf
  go_wp2_with (first
    | (go_at_call 56; have _t := tok0; refine (HT0.out _).mono ?_; rintro e wt0 ⟨vt, rfl, hxt0, hyes, -⟩; have hv9 := hyes HQ0.out; clear hyes; rw [HYY.out] at hv9; have hy0 := (Ext.refl wr).trans hxt0; have hy := hy0; clear tok0 _t; obtain ⟨nb, nc, hve9⟩ := owns_succ (show wt0.ownsRow _ 3 1 vt (1 + 1) _ from hv9); subst hve9; have g0 := hv9.cellAt 0 (by simp); have HB6 := Lib.hid ((hy.block hltr).trans HB.out); obtain ⟨k0, f0⟩ := box_cf0 HB6.out; clear hv9; simp only [List.map_cons, List.map_nil, List.getElem?_cons_zero, List.getElem?_cons_succ] at g0))
  exact HRR.out _ _ _ _ _ _ _ _ _ _ _ _ _ _ _ _ _ _ _ _ _ _ _ _ _ _ _ _ _ _ _ _ _ _ _ _ _ _ _ _ _ _ _ _ _ _ _ _ _ _ _ _ _ _ _ _ _ _ _ _ _ _ _ _ _ _ _ _ _ _ _ _ _ _ _ _ _ _ _ _ _ _ _ _ _ _ _ _ _ _ _ _ _ _ _ _ _ _ _ _ _ _ _ _ _ _ _ ⟨HF.out, ownsRow_setCell_other (owns_ext HO.out hy) (fun e => by have := owns_block HO.out _ e; simp only at this; omega) _, setCell_block (i := 0) (v := .int .i64 p) HB6.out, (HTT.out.trans (Touch.of_ext hy)).trans (Touch.setCell (M := (· = w.heap.size + 1)) (a := ⟨w.heap.size + 1, 0, none⟩) _ rfl)⟩
set_option maxRecDepth 1000000 in
set_option maxHeartbeats 64000000 in
theorem rreadl_none {K : Act → World → Prop} (s : List UInt8) (w w1 : World) (b L cap : Nat) (h : RReadAt s w w1 b L cap) (u1 u7 u8 u9 u10 u11 u12 u13 u14 u15 u16 u17 u18 u19 u20 u21 u22 u23 u24 u25 u26 u27 u28 u29 u30 u31 u32 u33 u34 u35 u36 u37 u38 u39 u40 u41 u42 u43 u44 u45 u46 u47 u48 u49 u50 u51 u52 u53 u54 u55 u56 u57 u58 u59 u60 u61 u62 u63 u64 u65 u66 u67 u68 u69 u70 u71 u72 u73 u74 u75 u76 u77 u78 u79 u80 u81 u82 u83 u84 u85 u86 u87 u88 u89 u90 u91 u92 u93 u94 u95 u96 u97 u98 u99 u100 u101 u102 u103 u104 u105 u106 u107 u108 u109 : Value) (R : Act → World → Prop) (wr : World) (i : Nat) (r : Round) (hv : Value) (hlt : i + 2 < L) (hrel : RRel s w w1 i r hv wr) (q0 : toldOk wRound 2 (lineAt s i) = false) (q1 : toldOk wWeigh 4 (lineAt s i) = false) (q2 : toldOk wHouse 6 (lineAt s i) = false) (q3 : toldOk wAll 2 (lineAt s i) = false) : Code.wp Tryz.prog rreadBody (Exit.then R (Exit.inBlock 0 (Exit.then K (bodyPost Tryz.prog Tryz.f22 (RReadPost s w))))) ⟨#[strV s, u1, .pointer (some ⟨w.heap.size, 0, none⟩), .bool false, .pointer (some ⟨w.heap.size + 1, 0, none⟩), .slice (some ⟨b, 0, none⟩) L cap, .int .i64 (i : Int), u7, u8, u9, u10, u11, u12, u13, u14, u15, u16, u17, u18, u19, u20, u21, u22, u23, u24, u25, u26, u27, u28, u29, u30, u31, u32, u33, u34, u35, u36, u37, u38, u39, u40, u41, u42, u43, u44, u45, u46, u47, u48, u49, u50, u51, u52, u53, u54, u55, u56, u57, u58, u59, u60, u61, u62, u63, u64, u65, u66, u67, u68, u69, u70, u71, u72, u73, u74, u75, u76, u77, u78, u79, u80, u81, u82, u83, u84, u85, u86, u87, u88, u89, u90, u91, u92, u93, u94, u95, u96, u97, u98, u99, u100, u101, u102, u103, u104, u105, u106, u107, u108, u109], []⟩ wr := by
  obtain ⟨hs, hL, hL1, hL5, hx1, hst, hbb⟩ := h
  obtain ⟨hf, ho, hb, ht⟩ := hrel
  have hw2 : Ext w ((w.alloc (.cells #[.int .i64 0, .int .i64 0, .int .i64 0, .int .i64 0, .int .i64 0, .slice none 0 0, .int .i64 0, .int .i64 0] 26)).alloc (.cells #[.int .i64 0, .int .i64 0, .int .i64 0, .int .i64 0, .int .i64 0, .slice none 0 0, .int .i64 0, .int .i64 0] 26)) := ((Ext.refl w).alloc _).alloc _
  have hxw1 : Ext w w1 := hw2.trans hx1
  have hxw : Ext w wr := Touch.ext hxw1 ht (fun k hk => by have hk' : k = w.heap.size + 1 := hk; omega)
  have hz1 := hx1.size
  simp only [World.size_alloc] at hz1
  have hzr := ht.size
  have hli : (splitL 10 s)[i]? = some (lineAt s i) := lineAt_get (by omega)
  have z0 := ht.cell (strs_cell hst hli) (by simp only; omega)
  have hls := lineAt_short s i
  have E0 : IntKind.i64.wrap ((i : Int) + 2) = (i : Int) + 2 := IntWalk.i64_in _ (by omega)
  have x1 : decide ((i : Int) + 2 < (L : Int)) = true := by simp; omega
  have x2 : (i : Int) < (L : Int) := by omega
  have x3 : (0 : Int) ≤ (i : Int) := by omega
  have x4 : i < L := by omega
  have HT0 := Lib.hid (fun w1 => rtold_any (lineAt s i) wRound 2 w1 (by omega) ⟨by omega, by omega⟩)
  have HQ0 := Lib.hid q0
  have tok0 : True := trivial
  have HT1 := Lib.hid (fun w1 => rtold_any (lineAt s i) wWeigh 4 w1 (by omega) ⟨by omega, by omega⟩)
  have HQ1 := Lib.hid q1
  have tok1 : True := trivial
  have HT2 := Lib.hid (fun w1 => rtold_any (lineAt s i) wHouse 6 w1 (by omega) ⟨by omega, by omega⟩)
  have HQ2 := Lib.hid q2
  have tok2 : True := trivial
  have HT3 := Lib.hid (fun w1 => rtold_any (lineAt s i) wAll 2 w1 (by omega) ⟨by omega, by omega⟩)
  have HQ3 := Lib.hid q3
  have tok3 : True := trivial
  have HST : Hid (rstep r (lineAt s i) = none) := by unfold Hid rstep; rw [if_neg (by rw [q0]; decide), if_neg (by rw [q1]; decide), if_neg (by rw [q2]; decide), if_neg (by rw [q3]; decide)]
  have HF : Hid (∀ w', Ext w w' → RReadPost s w (.returned (.tuple #[zR, .bool false])) w') := fun w' hx => by
    have h1 : rfold s (i + 1) = none := by rw [rfold_succ hf]; exact HST.out
    have h2 : rread s = none := by
      have h3 := rfold_none h1 (L - 2 - (i + 1))
      unfold rread
      rw [hL]
      rwa [show i + 1 + (L - 2 - (i + 1)) = L - 2 by omega] at h3
    exact ⟨_, _, rfl, hx, fun _ => ⟨rfl, rfl⟩, fun r hr => by rw [h2] at hr; cases hr⟩
  have HTT := Lib.hid ht
  have hzb : w1.heap[w.heap.size]? = some (.cells #[.int .i64 0, .int .i64 0, .int .i64 0, .int .i64 0, .int .i64 0, .slice none 0 0, .int .i64 0, .int .i64 0] 26 (0, 0)) := (hx1.block (by simp only [World.size_alloc]; omega)).trans (two_new w _ _).1
  have hmix : Tryz.prog.follows .mixedOrders = true := by kernel_rfl
  have hzr1 : wr.heap[w.heap.size]? = some (.cells #[.int .i64 0, .int .i64 0, .int .i64 0, .int .i64 0, .int .i64 0, .slice none 0 0, .int .i64 0, .int .i64 0] 26 (0, 0)) := ht.keep _ _ hzb (by omega)
  have HZR := Lib.hid hzr1
  have hltz := (Array.getElem?_eq_some_iff.1 hzr1).1
  have HXW := Lib.hid hxw
  clear q0 q1 q2 q3 hf ho hb ht hst hL hs hxw hxw1 hw2 hx1 HST hzb hzr1
  conv => arg 2; whnf
  go_upto_region 18 with (first
    | (go_at_call 56; have _t := tok0; refine (HT0.out _).mono ?_; rintro e wt0 ⟨_, rfl, hxt0, -, hno0⟩; have hno0' := hno0 HQ0.out; subst hno0'; have hy0 := (Ext.refl wr).trans hxt0; have z0 := hxt0.cell z0; clear tok0 _t)
    | (go_at_call 56; have _t := tok1; refine (HT1.out _).mono ?_; rintro e wt1 ⟨_, rfl, hxt1, -, hno1⟩; have hno1' := hno1 HQ1.out; subst hno1'; have hy1 := hy0.trans hxt1; have z0 := hxt1.cell z0; clear tok1 _t)
    | (go_at_call 56; have _t := tok2; refine (HT2.out _).mono ?_; rintro e wt2 ⟨_, rfl, hxt2, -, hno2⟩; have hno2' := hno2 HQ2.out; subst hno2'; have hy2 := hy1.trans hxt2; have z0 := hxt2.cell z0; clear tok2 _t)
    | (go_at_call 56; have _t := tok3; refine (HT3.out _).mono ?_; rintro e wt3 ⟨_, rfl, hxt3, -, hno3⟩; have hno3' := hno3 HQ3.out; subst hno3'; have hy3 := hy2.trans hxt3; have z0 := hxt3.cell z0; clear tok3 _t; have HZ6 := Lib.hid ((hy3.block hltz).trans HZR.out)))
  obtain ⟨hb15, hE15, -⟩ := box_set8 HZ6.out (.int .i64 0) (.int .i64 0) (.int .i64 0) (.int .i64 0) (.int .i64 0) (.slice none 0 0) (.int .i64 0) (.int .i64 0)
  have hE := hE15 w (HXW.out.trans hy3) (Nat.le_refl _)
  have HB15 := Lib.hid hb15
  have HE15 := Lib.hid hE
  clear hb15 hE15 hE
  refine wp_region_list ?_
  refine wpList_plain rfl (fun K2 hK2 => ?_)
  go_simp
  refine hK2 _ _ ?_
  clear hK2 K2
  refine wpList_store_mid rfl _ _ _ rfl w.heap.size 0 #[.int .i64 0, .int .i64 0, .int .i64 0, .int .i64 0, .int .i64 0, .slice none 0 0, .int .i64 0, .int .i64 0] rfl rfl (box_there8 HZ6.out) (by kernel_rfl) (by simp [Value.oneCell']) ?_
  change wpList _ _ _ _ _ (_root_.Go.World.setCells _ w.heap.size 0 [.int .i64 0, .int .i64 0, .int .i64 0, .int .i64 0, .int .i64 0, .slice none 0 0, .int .i64 0, .int .i64 0])
  generalize World.setCells _ w.heap.size 0 [.int .i64 0, .int .i64 0, .int .i64 0, .int .i64 0, .int .i64 0, .slice none 0 0, .int .i64 0, .int .i64 0] = W15 at *
  go_wp2
  exact bodyPost_ret (rread_results rfl rfl HB15.out) rfl (HF.out _ HE15.out)
set_option maxRecDepth 1000000 in
set_option maxHeartbeats 64000000 in
theorem rreadl_weigh {K : Act → World → Prop} (s : List UInt8) (w w1 : World) (b L cap : Nat) (h : RReadAt s w w1 b L cap) (u1 u7 u8 u9 u10 u11 u12 u13 u14 u15 u16 u17 u18 u19 u20 u21 u22 u23 u24 u25 u26 u27 u28 u29 u30 u31 u32 u33 u34 u35 u36 u37 u38 u39 u40 u41 u42 u43 u44 u45 u46 u47 u48 u49 u50 u51 u52 u53 u54 u55 u56 u57 u58 u59 u60 u61 u62 u63 u64 u65 u66 u67 u68 u69 u70 u71 u72 u73 u74 u75 u76 u77 u78 u79 u80 u81 u82 u83 u84 u85 u86 u87 u88 u89 u90 u91 u92 u93 u94 u95 u96 u97 u98 u99 u100 u101 u102 u103 u104 u105 u106 u107 u108 u109 : Value) (R : Act → World → Prop) (wr : World) (i : Nat) (r : Round) (hv : Value) (hlt : i + 2 < L) (hrel : RRel s w w1 i r hv wr) (q0 : toldOk wRound 2 (lineAt s i) = false) (q1 : toldOk wWeigh 4 (lineAt s i) = true) (hR : ∀ (y1 y7 y8 y9 y10 y11 y12 y13 y14 y15 y16 y17 y18 y19 y20 y21 y22 y23 y24 y25 y26 y27 y28 y29 y30 y31 y32 y33 y34 y35 y36 y37 y38 y39 y40 y41 y42 y43 y44 y45 y46 y47 y48 y49 y50 y51 y52 y53 y54 y55 y56 y57 y58 y59 y60 y61 y62 y63 y64 y65 y66 y67 y68 y69 y70 y71 y72 y73 y74 y75 y76 y77 y78 y79 y80 y81 y82 y83 y84 y85 y86 y87 y88 y89 y90 y91 y92 y93 y94 y95 y96 y97 y98 y99 y100 y101 y102 y103 y104 y105 y106 y107 y108 y109 : Value) (r' : Round) (hv' : Value) (wr' : World), RRel s w w1 (i + 1) r' hv' wr' → R ⟨#[strV s, y1, .pointer (some ⟨w.heap.size, 0, none⟩), .bool false, .pointer (some ⟨w.heap.size + 1, 0, none⟩), .slice (some ⟨b, 0, none⟩) L cap, .int .i64 ((i : Int) + 1), y7, y8, y9, y10, y11, y12, y13, y14, y15, y16, y17, y18, y19, y20, y21, y22, y23, y24, y25, y26, y27, y28, y29, y30, y31, y32, y33, y34, y35, y36, y37, y38, y39, y40, y41, y42, y43, y44, y45, y46, y47, y48, y49, y50, y51, y52, y53, y54, y55, y56, y57, y58, y59, y60, y61, y62, y63, y64, y65, y66, y67, y68, y69, y70, y71, y72, y73, y74, y75, y76, y77, y78, y79, y80, y81, y82, y83, y84, y85, y86, y87, y88, y89, y90, y91, y92, y93, y94, y95, y96, y97, y98, y99, y100, y101, y102, y103, y104, y105, y106, y107, y108, y109], []⟩ wr') : Code.wp Tryz.prog rreadBody (Exit.then R (Exit.inBlock 0 (Exit.then K (bodyPost Tryz.prog Tryz.f22 (RReadPost s w))))) ⟨#[strV s, u1, .pointer (some ⟨w.heap.size, 0, none⟩), .bool false, .pointer (some ⟨w.heap.size + 1, 0, none⟩), .slice (some ⟨b, 0, none⟩) L cap, .int .i64 (i : Int), u7, u8, u9, u10, u11, u12, u13, u14, u15, u16, u17, u18, u19, u20, u21, u22, u23, u24, u25, u26, u27, u28, u29, u30, u31, u32, u33, u34, u35, u36, u37, u38, u39, u40, u41, u42, u43, u44, u45, u46, u47, u48, u49, u50, u51, u52, u53, u54, u55, u56, u57, u58, u59, u60, u61, u62, u63, u64, u65, u66, u67, u68, u69, u70, u71, u72, u73, u74, u75, u76, u77, u78, u79, u80, u81, u82, u83, u84, u85, u86, u87, u88, u89, u90, u91, u92, u93, u94, u95, u96, u97, u98, u99, u100, u101, u102, u103, u104, u105, u106, u107, u108, u109], []⟩ wr := by
  obtain ⟨hs, hL, hL1, hL5, hx1, hst, hbb⟩ := h
  obtain ⟨hf, ho, hb, ht⟩ := hrel
  have hw2 : Ext w ((w.alloc (.cells #[.int .i64 0, .int .i64 0, .int .i64 0, .int .i64 0, .int .i64 0, .slice none 0 0, .int .i64 0, .int .i64 0] 26)).alloc (.cells #[.int .i64 0, .int .i64 0, .int .i64 0, .int .i64 0, .int .i64 0, .slice none 0 0, .int .i64 0, .int .i64 0] 26)) := ((Ext.refl w).alloc _).alloc _
  have hxw1 : Ext w w1 := hw2.trans hx1
  have hxw : Ext w wr := Touch.ext hxw1 ht (fun k hk => by have hk' : k = w.heap.size + 1 := hk; omega)
  have hz1 := hx1.size
  simp only [World.size_alloc] at hz1
  have hzr := ht.size
  have hli : (splitL 10 s)[i]? = some (lineAt s i) := lineAt_get (by omega)
  have z0 := ht.cell (strs_cell hst hli) (by simp only; omega)
  have hls := lineAt_short s i
  have E0 : IntKind.i64.wrap ((i : Int) + 2) = (i : Int) + 2 := IntWalk.i64_in _ (by omega)
  have x1 : decide ((i : Int) + 2 < (L : Int)) = true := by simp; omega
  have x2 : (i : Int) < (L : Int) := by omega
  have x3 : (0 : Int) ≤ (i : Int) := by omega
  have x4 : i < L := by omega
  obtain ⟨hl6, -, -⟩ := told_line q1
  obtain ⟨x0', x1', x2', x3', hyy⟩ := four_of hl6
  have HYY := Lib.hid hyy
  have HT0 := Lib.hid (fun w1 => rtold_any (lineAt s i) wRound 2 w1 (by omega) ⟨by omega, by omega⟩)
  have HQ0 := Lib.hid q0
  have tok0 : True := trivial
  have HT1 := Lib.hid (fun w1 => rtold_any (lineAt s i) wWeigh 4 w1 (by omega) ⟨by omega, by omega⟩)
  have HQ1 := Lib.hid q1
  have tok1 : True := trivial
  have HST : Hid (rstep r (lineAt s i) = some { r with lo := x0', hi := x1', card := x2', slack := x3' }) := by unfold Hid rstep; rw [if_neg (by rw [q0]; decide), if_pos q1, hyy]; rfl
  have HF : Hid (rfold s (i + 1) = some { r with lo := x0', hi := x1', card := x2', slack := x3' }) := by unfold Hid; rw [rfold_succ hf]; exact HST.out
  have HRR := Lib.hid hR
  have HO := Lib.hid ho
  have HB := Lib.hid hb
  have HTT := Lib.hid ht
  have hltr := (Array.getElem?_eq_some_iff.1 hb).1
  have hmix : Tryz.prog.follows .mixedOrders = true := by kernel_rfl
  clear q0 q1 hyy hl6 hR hf ho hb ht hst hL hs hxw hxw1 hw2 hx1 HST
  conv => arg 2; whnf
  go_upto_region 11 with (first
    | (go_at_call 56; have _t := tok0; refine (HT0.out _).mono ?_; rintro e wt0 ⟨_, rfl, hxt0, -, hno0⟩; have hno0' := hno0 HQ0.out; subst hno0'; have hy0 := (Ext.refl wr).trans hxt0; have z0 := hxt0.cell z0; clear tok0 _t)
    | (go_at_call 56; have _t := tok1; refine (HT1.out _).mono ?_; rintro e wt1 ⟨vt, rfl, hxt1, hyes, -⟩; have hv9 := hyes HQ1.out; clear hyes; rw [HYY.out] at hv9; have hy1 := hy0.trans hxt1; have hy := hy1; clear tok1 _t; obtain ⟨nb, nc, hve9⟩ := owns_succ (show wt1.ownsRow _ 3 1 vt (3 + 1) _ from hv9); subst hve9; have g0 := hv9.cellAt 0 (by simp); have g1 := hv9.cellAt 1 (by simp); have g2 := hv9.cellAt 2 (by simp); have g3 := hv9.cellAt 3 (by simp); have HB6 := Lib.hid ((hy.block hltr).trans HB.out); have hnb := (World.ownsRow.lt hv9 nb rfl).1; clear hv9; simp only [List.map_cons, List.map_nil, List.getElem?_cons_zero, List.getElem?_cons_succ] at g0 g1 g2 g3))
  obtain ⟨⟨k1, k2, k3, k4⟩, f1, f2, f3, f4⟩ := box_cf13 HB6.out
  have hzt0 := hxt0.size
  have hne6 : ¬ nb = w.heap.size + 1 := by omega
  have HS0 : Hid ((fun w' : World => w'.cell? ⟨nb, 0, none⟩ = some (.int .i64 x0') ∧ w'.cell? ⟨nb, 1, none⟩ = some (.int .i64 x1') ∧ w'.cell? ⟨nb, 2, none⟩ = some (.int .i64 x2') ∧ w'.cell? ⟨nb, 3, none⟩ = some (.int .i64 x3')) wt1.drew) := ⟨g0, g1, g2, g3⟩
  have HSC : Hid (∀ W' j u, (fun w' : World => w'.cell? ⟨nb, 0, none⟩ = some (.int .i64 x0') ∧ w'.cell? ⟨nb, 1, none⟩ = some (.int .i64 x1') ∧ w'.cell? ⟨nb, 2, none⟩ = some (.int .i64 x2') ∧ w'.cell? ⟨nb, 3, none⟩ = some (.int .i64 x3')) W' → (fun w' : World => w'.cell? ⟨nb, 0, none⟩ = some (.int .i64 x0') ∧ w'.cell? ⟨nb, 1, none⟩ = some (.int .i64 x1') ∧ w'.cell? ⟨nb, 2, none⟩ = some (.int .i64 x2') ∧ w'.cell? ⟨nb, 3, none⟩ = some (.int .i64 x3')) (W'.setCell ⟨w.heap.size + 1, j, none⟩ u)) := fun W' j u ⟨h0, h1, h2, h3⟩ => ⟨by rw [World.cell?_setCell_far _ _ _ _ (fun e => hne6 e.symm)]; exact h0, by rw [World.cell?_setCell_far _ _ _ _ (fun e => hne6 e.symm)]; exact h1, by rw [World.cell?_setCell_far _ _ _ _ (fun e => hne6 e.symm)]; exact h2, by rw [World.cell?_setCell_far _ _ _ _ (fun e => hne6 e.symm)]; exact h3⟩
  clear g0 g1 g2 g3
  refine wp_region_held_drew (S := (fun w' : World => w'.cell? ⟨nb, 0, none⟩ = some (.int .i64 x0') ∧ w'.cell? ⟨nb, 1, none⟩ = some (.int .i64 x1') ∧ w'.cell? ⟨nb, 2, none⟩ = some (.int .i64 x2') ∧ w'.cell? ⟨nb, 3, none⟩ = some (.int .i64 x3'))) (by kernel_rfl) ?_ (fun hHeld => ?_)
  · exact HS0.out
  refine held_take (i := 0) (d := some 40) (v := ?_) (by kernel_rfl) (by kernel_rfl) (by kernel_rfl) (by kernel_rfl) (fun _ _ _ h => h) (fun o ho => ?_) hHeld ?_
  rotate_left
  · simp only [List.getElem?_toArray, List.getElem?_cons_zero, Option.some.injEq] at ho
    subst ho
    refine ⟨by rfl, fun w hSw => ?_⟩
    (try dsimp only at hSw)
    go_simp
    try with_reducible rfl
  try simp only [Act.put, List.setIfInBounds_toArray, List.set_cons_zero, List.set_cons_succ]
  refine held_take (i := 1) (d := some 41) (v := ?_) (by kernel_rfl) (by kernel_rfl) (by kernel_rfl) (by kernel_rfl) (fun _ _ _ h => h) (fun o ho => ?_) hHeld ?_
  rotate_left
  · simp only [List.getElem?_toArray, List.getElem?_cons_zero, List.getElem?_cons_succ, Option.some.injEq] at ho
    subst ho
    refine ⟨by rfl, fun w hSw => ?_⟩
    (try dsimp only at hSw)
    go_simp
    try with_reducible rfl
  try simp only [Act.put, List.setIfInBounds_toArray, List.set_cons_zero, List.set_cons_succ]
  refine held_take (i := 2) (d := some 42) (v := ?_) (by kernel_rfl) (by kernel_rfl) (by kernel_rfl) (by kernel_rfl) (fun _ _ _ h => h) (fun o ho => ?_) hHeld ?_
  rotate_left
  · simp only [List.getElem?_toArray, List.getElem?_cons_zero, List.getElem?_cons_succ, Option.some.injEq] at ho
    subst ho
    refine ⟨by rfl, fun w hSw => ?_⟩
    (try dsimp only at hSw)
    go_simp
    try with_reducible rfl
  try simp only [Act.put, List.setIfInBounds_toArray, List.set_cons_zero, List.set_cons_succ]
  refine held_take (i := 3) (d := some 43) (v := ?_) (by kernel_rfl) (by kernel_rfl) (by kernel_rfl) (by kernel_rfl) (fun _ _ _ h => h) (fun o ho => ?_) hHeld ?_
  rotate_left
  · simp only [List.getElem?_toArray, List.getElem?_cons_zero, List.getElem?_cons_succ, Option.some.injEq] at ho
    subst ho
    refine ⟨by rfl, fun w hSw => ?_⟩
    (try dsimp only at hSw)
    go_simp
    try with_reducible rfl
  try simp only [Act.put, List.setIfInBounds_toArray, List.set_cons_zero, List.set_cons_succ]
  refine held_take (i := 4) (d := some 44) (v := ?_) (by kernel_rfl) (by kernel_rfl) (by kernel_rfl) (by kernel_rfl) (fun _ _ _ h => h) (fun o ho => ?_) hHeld ?_
  rotate_left
  · simp only [List.getElem?_toArray, List.getElem?_cons_zero, List.getElem?_cons_succ, Option.some.injEq] at ho
    subst ho
    refine ⟨by rfl, fun w hSw => ?_⟩
    (try dsimp only at hSw)
    go_simp
    try with_reducible rfl
  try simp only [Act.put, List.setIfInBounds_toArray, List.set_cons_zero, List.set_cons_succ]
  refine held_take (i := 5) (d := some 45) (v := ?_) (by kernel_rfl) (by kernel_rfl) (by kernel_rfl) (by kernel_rfl) (fun _ _ _ h => h) (fun o ho => ?_) hHeld ?_
  rotate_left
  · simp only [List.getElem?_toArray, List.getElem?_cons_zero, List.getElem?_cons_succ, Option.some.injEq] at ho
    subst ho
    refine ⟨by rfl, fun w hSw => ?_⟩
    (try dsimp only at hSw)
    go_simp
    try with_reducible rfl
  try simp only [Act.put, List.setIfInBounds_toArray, List.set_cons_zero, List.set_cons_succ]
  refine held_take (i := 6) (d := some 46) (v := ?_) (by kernel_rfl) (by kernel_rfl) (by kernel_rfl) (by kernel_rfl) (fun _ _ _ h => h) (fun o ho => ?_) hHeld ?_
  rotate_left
  · simp only [List.getElem?_toArray, List.getElem?_cons_zero, List.getElem?_cons_succ, Option.some.injEq] at ho
    subst ho
    refine ⟨by rfl, fun w hSw => ?_⟩
    (try dsimp only at hSw)
    go_simp
    try with_reducible rfl
  try simp only [Act.put, List.setIfInBounds_toArray, List.set_cons_zero, List.set_cons_succ]
  refine held_take (i := 7) (d := some 47) (v := ?_) (by kernel_rfl) (by kernel_rfl) (by kernel_rfl) (by kernel_rfl) (fun _ _ _ h => h) (fun o ho => ?_) hHeld ?_
  rotate_left
  · simp only [List.getElem?_toArray, List.getElem?_cons_zero, List.getElem?_cons_succ, Option.some.injEq] at ho
    subst ho
    refine ⟨by rfl, fun w hSw => ?_⟩
    (try dsimp only at hSw)
    go_simp
    try with_reducible rfl
  try simp only [Act.put, List.setIfInBounds_toArray, List.set_cons_zero, List.set_cons_succ]
  refine held_take (i := 8) (d := some 48) (v := ?_) (by kernel_rfl) (by kernel_rfl) (by kernel_rfl) (by kernel_rfl) (fun _ _ _ h => h) (fun o ho => ?_) hHeld ?_
  rotate_left
  · simp only [List.getElem?_toArray, List.getElem?_cons_zero, List.getElem?_cons_succ, Option.some.injEq] at ho
    subst ho
    refine ⟨by rfl, fun w hSw => ?_⟩
    (try dsimp only at hSw)
    go_simp
    try with_reducible rfl
  try simp only [Act.put, List.setIfInBounds_toArray, List.set_cons_zero, List.set_cons_succ]
  refine held_take (i := 9) (d := some 49) (v := ?_) (by kernel_rfl) (by kernel_rfl) (by kernel_rfl) (by kernel_rfl) (fun _ _ _ h => h) (fun o ho => ?_) hHeld ?_
  rotate_left
  · simp only [List.getElem?_toArray, List.getElem?_cons_zero, List.getElem?_cons_succ, Option.some.injEq] at ho
    subst ho
    refine ⟨by rfl, fun w hSw => ?_⟩
    (try dsimp only at hSw)
    go_simp
    try with_reducible rfl
  try simp only [Act.put, List.setIfInBounds_toArray, List.set_cons_zero, List.set_cons_succ]
  refine held_take (i := 10) (d := some 50) (v := ?_) (by kernel_rfl) (by kernel_rfl) (by kernel_rfl) (by kernel_rfl) (fun _ _ _ h => h) (fun o ho => ?_) hHeld ?_
  rotate_left
  · simp only [List.getElem?_toArray, List.getElem?_cons_zero, List.getElem?_cons_succ, Option.some.injEq] at ho
    subst ho
    refine ⟨by rfl, fun w hSw => ?_⟩
    (try dsimp only at hSw)
    go_simp
    try with_reducible rfl
  try simp only [Act.put, List.setIfInBounds_toArray, List.set_cons_zero, List.set_cons_succ]
  refine held_take (i := 11) (d := some 51) (v := ?_) (by kernel_rfl) (by kernel_rfl) (by kernel_rfl) (by kernel_rfl) (fun _ _ _ h => h) (fun o ho => ?_) hHeld ?_
  rotate_left
  · simp only [List.getElem?_toArray, List.getElem?_cons_zero, List.getElem?_cons_succ, Option.some.injEq] at ho
    subst ho
    refine ⟨by rfl, fun w hSw => ?_⟩
    (try dsimp only at hSw)
    go_simp
    try with_reducible rfl
  try simp only [Act.put, List.setIfInBounds_toArray, List.set_cons_zero, List.set_cons_succ]
  refine held_take (i := 12) (d := some 52) (v := ?_) (by kernel_rfl) (by kernel_rfl) (by kernel_rfl) (by kernel_rfl) (fun _ _ _ h => h) (fun o ho => ?_) hHeld ?_
  rotate_left
  · simp only [List.getElem?_toArray, List.getElem?_cons_zero, List.getElem?_cons_succ, Option.some.injEq] at ho
    subst ho
    refine ⟨by rfl, fun w hSw => ?_⟩
    (try dsimp only at hSw)
    go_simp
    try with_reducible rfl
  try simp only [Act.put, List.setIfInBounds_toArray, List.set_cons_zero, List.set_cons_succ]
  refine held_take (i := 13) (d := some 53) (v := ?_) (by kernel_rfl) (by kernel_rfl) (by kernel_rfl) (by kernel_rfl) (fun _ _ _ h => h) (fun o ho => ?_) hHeld ?_
  rotate_left
  · simp only [List.getElem?_toArray, List.getElem?_cons_zero, List.getElem?_cons_succ, Option.some.injEq] at ho
    subst ho
    refine ⟨by rfl, fun w hSw => ?_⟩
    (try dsimp only at hSw)
    go_simp
    try with_reducible rfl
  try simp only [Act.put, List.setIfInBounds_toArray, List.set_cons_zero, List.set_cons_succ]
  refine wpAnyH_ready (rs := [14]) (by kernel_rfl) (by simp) ?_
  refine held_step (i := 14) (by kernel_rfl) (fun o ho K' hK => ?_) ?_
  · simp only [List.getElem?_toArray, List.getElem?_cons_zero, List.getElem?_cons_succ, Option.some.injEq] at ho
    subst ho
    go_simp
    refine hK.out _ _ ?_ (fun hHeld => ?_)
    · exact (HSC.out _ _ _ (HSC.out _ _ _ HS0.out))
    clear hK K'
    try simp only [List.setIfInBounds_toArray, List.set_cons_zero, List.set_cons_succ]
    refine held_take (i := 15) (d := some 54) (v := ?_) (by kernel_rfl) (by kernel_rfl) (by kernel_rfl) (by kernel_rfl) (fun _ _ _ h => h) (fun o ho => ?_) hHeld ?_
    rotate_left
    · simp only [List.getElem?_toArray, List.getElem?_cons_zero, List.getElem?_cons_succ, Option.some.injEq] at ho
      subst ho
      refine ⟨by rfl, fun w hSw => ?_⟩
      (try dsimp only at hSw)
      go_simp
      try with_reducible rfl
    try simp only [Act.put, List.setIfInBounds_toArray, List.set_cons_zero, List.set_cons_succ]
    refine wpAnyH_ready (rs := [16]) (by kernel_rfl) (by simp) ?_
    refine held_step (i := 16) (by kernel_rfl) (fun o ho K' hK => ?_) ?_
    · simp only [List.getElem?_toArray, List.getElem?_cons_zero, List.getElem?_cons_succ, Option.some.injEq] at ho
      subst ho
      go_simp
      refine hK.out _ _ ?_ (fun hHeld => ?_)
      · exact (HSC.out _ _ _ (HSC.out _ _ _ (HSC.out _ _ _ HS0.out)))
      clear hK K'
      try simp only [List.setIfInBounds_toArray, List.set_cons_zero, List.set_cons_succ]
      refine held_take (i := 17) (d := some 55) (v := ?_) (by kernel_rfl) (by kernel_rfl) (by kernel_rfl) (by kernel_rfl) (fun _ _ _ h => h) (fun o ho => ?_) hHeld ?_
      rotate_left
      · simp only [List.getElem?_toArray, List.getElem?_cons_zero, List.getElem?_cons_succ, Option.some.injEq] at ho
        subst ho
        refine ⟨by rfl, fun w hSw => ?_⟩
        (try dsimp only at hSw)
        go_simp
        try with_reducible rfl
      try simp only [Act.put, List.setIfInBounds_toArray, List.set_cons_zero, List.set_cons_succ]
      refine wpAnyH_ready (rs := [18]) (by kernel_rfl) (by simp) ?_
      refine held_step (i := 18) (by kernel_rfl) (fun o ho K' hK => ?_) ?_
      · simp only [List.getElem?_toArray, List.getElem?_cons_zero, List.getElem?_cons_succ, Option.some.injEq] at ho
        subst ho
        go_simp
        refine hK.out _ _ ?_ (fun hHeld => ?_)
        · exact (HSC.out _ _ _ (HSC.out _ _ _ (HSC.out _ _ _ (HSC.out _ _ _ HS0.out))))
        clear hK K'
        try simp only [List.setIfInBounds_toArray, List.set_cons_zero, List.set_cons_succ]
        refine wpAnyH_done (by kernel_rfl) ?_ _
        try simp only [List.setIfInBounds_toArray, List.set_cons_zero, List.set_cons_succ]
        go_wp2
        exact HRR.out _ _ _ _ _ _ _ _ _ _ _ _ _ _ _ _ _ _ _ _ _ _ _ _ _ _ _ _ _ _ _ _ _ _ _ _ _ _ _ _ _ _ _ _ _ _ _ _ _ _ _ _ _ _ _ _ _ _ _ _ _ _ _ _ _ _ _ _ _ _ _ _ _ _ _ _ _ _ _ _ _ _ _ _ _ _ _ _ _ _ _ _ _ _ _ _ _ _ _ _ _ _ _ _ _ _ _ ⟨HF.out, ownsRow_setCell_other (ownsRow_setCell_other (ownsRow_setCell_other (ownsRow_setCell_other (owns_ext HO.out hy.drew) (fun e => by have := owns_block HO.out _ e; simp only at this; omega) _) (fun e => by have := owns_block HO.out _ e; simp only at this; omega) _) (fun e => by have := owns_block HO.out _ e; simp only at this; omega) _) (fun e => by have := owns_block HO.out _ e; simp only at this; omega) _, setCell_block (i := 4) (v := .int .i64 x3') (setCell_block (i := 3) (v := .int .i64 x2') (setCell_block (i := 2) (v := .int .i64 x1') (setCell_block (i := 1) (v := .int .i64 x0') HB6.out))), (((((HTT.out.trans (Touch.of_ext hy.drew)).trans (Touch.setCell (M := (· = w.heap.size + 1)) (a := ⟨w.heap.size + 1, 1, none⟩) _ rfl)).trans (Touch.setCell (M := (· = w.heap.size + 1)) (a := ⟨w.heap.size + 1, 2, none⟩) _ rfl)).trans (Touch.setCell (M := (· = w.heap.size + 1)) (a := ⟨w.heap.size + 1, 3, none⟩) _ rfl)).trans (Touch.setCell (M := (· = w.heap.size + 1)) (a := ⟨w.heap.size + 1, 4, none⟩) _ rfl))⟩
      exact AllReadyH.nil
    exact AllReadyH.nil
  exact AllReadyH.nil
end Go.Proofs.YtbeophjdiddomaaGreatDoor
