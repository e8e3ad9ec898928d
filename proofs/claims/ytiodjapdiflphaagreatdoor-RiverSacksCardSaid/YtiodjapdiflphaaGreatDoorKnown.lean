/- The law's 'known' is true. -/
import Derived.Test.YtiodjapdiflphaaGreatDoorLaw
import Derived.Test.YtiodjapdiflphaaGreatDoorPrintq
namespace Go.Proofs.YtiodjapdiflphaaGreatDoor
open Go.RowKit
theorem ev_could : couldArg exB ⟨[12], 1⟩ = true := by decide +kernel
theorem ev_word : couldArg exB ⟨[13, 9], 1⟩ = true := by decide +kernel
theorem ev_ask0 : askN exB exS (inB 0 0 (exS.shells.length - 1)) = 0 := by decide +kernel
theorem ev_ask : askN exB exS true = 0 := by decide +kernel
theorem ev_ask2 : askN exB exS (inB 2 0 4) = 0 := by decide +kernel
theorem ev_len : lengthArg exB 0 0 2 = true := by decide +kernel
theorem ev_ripe : ripeArg exB 0 0 25 = true := by decide +kernel
theorem ev_dealA : dealArg exB exL exK = true := by decide +kernel
theorem k_Could (m a1 : Nat) (w : World) (hb : BookAt w (bookEx m) exB) (hs : IntsAt w (.slice (some ⟨a1, 0, none⟩) 1 1) [12]) : Calls Tryz.prog 22 #[bookEx m, .agg #[.slice (some ⟨a1, 0, none⟩) 1 1, .int .i64 1]] w fun e w' => ∃ (a : Option Addr) (c : Nat), e = .returned (.tuple #[.slice a 4 c, .int .i64 0]) ∧ Ext w w' ∧ PairsAt w' (.slice a 4 c) [(0, 0), (0, 1), (1, 0), (1, 3)] :=
 (Could_any _ _ exB ⟨[12], 1⟩ w hb ⟨_, rfl, hs⟩).mono fun e w' h => by
  obtain ⟨v, h1, h2, h3⟩ := h
  rw [ev_could, if_pos rfl] at h1 h3
  rw [ex_could] at h3
  obtain ⟨a, c, rfl, _⟩ := h3.open
  exact ⟨a, c, h1, h2, h3⟩
theorem k_Word (m a0 : Nat) (w : World) (hb : BookAt w (bookEx m) exB) (hs : IntsAt w (.slice (some ⟨a0, 0, none⟩) 2 2) [13, 9]) : Calls Tryz.prog 25 #[bookEx m, .agg #[.slice (some ⟨a0, 0, none⟩) 2 2, .int .i64 1]] w fun e w' => e = .returned (.tuple #[.int .i64 3, .int .i64 0]) ∧ Ext w w' :=
 (Word_any _ _ exB ⟨[13, 9], 1⟩ w hb ⟨_, rfl, hs⟩).mono fun e w' h => by
  obtain ⟨h1, h2⟩ := h
  rw [ev_word, if_pos rfl, if_pos rfl, ex_word] at h1
  exact ⟨h1, h2⟩
theorem k_Origins (m s : Nat) (w : World) (hb : BookAt w (bookEx m) exB) (hs : SackAt w (sackEx s) exS) : Calls Tryz.prog 14 #[bookEx m, sackEx s, .int .i64 0] w fun e w' => ∃ (a : Option Addr) (c : Nat), e = .returned (.tuple #[.slice a 1 c, .int .i64 0]) ∧ Ext w w' ∧ PairsAt w' (.slice a 1 c) [(1, 1)] :=
 (Origins_any _ _ exB exS 0 w hb hs).mono fun e w' h => by
  obtain ⟨v, h1, h2, h3⟩ := h
  rw [ev_ask0] at h1
  rw [ev_ask0, if_pos rfl, show (0 : Int).toNat = 0 from rfl, ex_origins] at h3
  obtain ⟨a, c, rfl, _⟩ := h3.open
  exact ⟨a, c, h1, h2, h3⟩
theorem k_Weather (m s : Nat) (w : World) (hb : BookAt w (bookEx m) exB) (hs : SackAt w (sackEx s) exS) : Calls Tryz.prog 15 #[bookEx m, sackEx s] w fun e w' => ∃ (G o c g p d : Nat), e = .returned (.tuple #[.slice (some ⟨G, o, none⟩) 2 c, .int .i64 0]) ∧ Ext w w' ∧
  w'.cell? ⟨G, o, none⟩ = some (.slice (some ⟨g, p, none⟩) 4 d) ∧ w'.cell? ⟨g, p + 2, none⟩ = some (.int .i64 16) ∧ w'.cell? ⟨g, p + 3, none⟩ = some (.int .i64 16) :=
 (Weather_any _ _ exB exS w hb hs).mono fun e w' h => by
  obtain ⟨v, h1, h2, vs, h3, h4, _, h6⟩ := h
  rw [ev_ask] at h1
  rw [ev_ask, if_pos rfl, ex_weather] at h3 h4 h6
  obtain ⟨a, c, rfl, _, _, h5⟩ := RowAt.open h4
  match vs, h3 with
  | [x, y], _ =>
   obtain ⟨G, o, rfl, hc⟩ := h5 0 x rfl
   have h7 := (h6 0 x _ rfl rfl).1
   obtain ⟨b, d, rfl, _, _, h8⟩ := h7.open
   obtain ⟨g, p, z, rfl, hz, e0, e1⟩ := h8 1 (by decide)
   cases hz
   exact ⟨G, o, c, g, p, d, h1, h2, hc, e0, e1⟩
theorem k_Closed (m s : Nat) (w : World) (hb : BookAt w (bookEx m) exB) (hs : SackAt w (sackEx s) exS) : Calls Tryz.prog 16 #[bookEx m, sackEx s] w fun e w' => e = .returned (.tuple #[.agg #[.int .i64 1, .int .i64 2], .int .i64 0]) ∧ Ext w w' :=
 (Closed_any _ _ exB exS w hb hs).mono fun e w' h => by
  obtain ⟨h1, h2⟩ := h
  rw [ev_ask, if_pos rfl, if_pos rfl, ex_closed] at h1
  exact ⟨h1, h2⟩
theorem k_Tests (m s : Nat) (w : World) (hb : BookAt w (bookEx m) exB) (hs : SackAt w (sackEx s) exS) : Calls Tryz.prog 8 #[bookEx m, sackEx s, .int .i64 2] w fun e w' => e = .returned (.tuple #[.int .i64 1, .int .i64 1, .int .i64 0]) ∧ Ext w w' :=
 (Tests_any _ _ exB exS 2 w hb hs).mono fun e w' h => by
  obtain ⟨h1, h2⟩ := h
  rw [ev_ask2, if_pos rfl, ex_known, if_neg (by simp), ex_tests] at h1
  exact ⟨h1, h2⟩
theorem k_Length (m : Nat) (w : World) (hb : BookAt w (bookEx m) exB) : Calls Tryz.prog 26 #[bookEx m, .int .i64 0, .int .i64 0, .int .i64 2] w fun e w' => e = .returned (.tuple #[.agg #[.int .i64 29, .int .i64 40], .int .i64 0]) ∧ Ext w w' :=
 (Length_any _ exB 0 0 2 w hb).mono fun e w' h => by
  obtain ⟨h2, h1⟩ := h
  rw [ev_len, if_pos rfl, if_pos rfl, if_pos rfl, ex_length] at h1
  exact ⟨h1, h2⟩
theorem k_Ripe (m : Nat) (w : World) (hb : BookAt w (bookEx m) exB) : Calls Tryz.prog 27 #[bookEx m, .int .i64 0, .int .i64 0, .int .i64 25] w fun e w' => e = .returned (.tuple #[.int .i64 2, .int .i64 0]) ∧ Ext w w' :=
 (Ripe_any _ exB 0 0 25 w hb).mono fun e w' h => by
  obtain ⟨h2, h1⟩ := h
  rw [ev_ripe, if_pos rfl, if_pos rfl, ex_ripe] at h1
  exact ⟨h1, h2⟩
theorem k_Deal (m lm km : Nat) (w : World) (hb : BookAt w (bookEx m) exB) (hl : RowOf licC w (.slice (some ⟨lm, 0, none⟩) 2 2) exL) (hk : RowOf takC w (.slice (some ⟨km, 0, none⟩) 4 4) exK) : Calls Tryz.prog 28 #[bookEx m, .slice (some ⟨lm, 0, none⟩) 2 2, .slice (some ⟨km, 0, none⟩) 4 4] w fun e w' => ∃ (a : Option Addr) (c : Nat), e = .returned (.tuple #[.slice a 4 c, .int .i64 6, .int .i64 0]) ∧ Ext w w' ∧ IntsAt w' (.slice a 4 c) [0, -1, 1, -1] :=
 (Deal_any _ _ _ exB exL exK w hb hl hk).mono fun e w' h => by
  obtain ⟨v, h1, h2, h3⟩ := h
  rw [ev_dealA, if_pos rfl, if_pos rfl, ex_deal] at h1
  rw [ev_dealA, if_pos rfl, ex_deal] at h3
  obtain ⟨a, c, rfl, _⟩ := h3.open
  exact ⟨a, c, h1, h2, h3⟩
theorem k_Print (m : Nat) (w : World) (hb : BookAt w (bookEx m) exB) (ht : TabOk w) : Calls Tryz.prog 31 #[bookEx m] w fun e w' => e = .returned (.tuple #[strV [98, 111, 111, 107, 32, 52, 32, 50, 10, 114, 105, 118, 101, 114, 32, 49, 32, 52, 32, 49, 48, 32, 49, 50, 32, 49, 52, 32, 49, 54, 32, 56, 32, 57, 32, 50, 48, 32, 50, 50, 10, 114, 105, 118, 101, 114, 32, 48, 32, 49, 48, 32, 49, 50, 32, 49, 52, 32, 57, 32, 49, 48, 32, 49, 53, 32, 49, 53, 32, 49, 48, 32, 49, 50, 10, 101, 110, 100, 32, 48, 57, 50, 10], .int .i64 0]) ∧ Ext w w' :=
 (Print_any _ exB w hb ht).mono fun e w' h => by
  obtain ⟨h1, h2⟩ := h
  rw [ex_book, if_pos rfl, if_pos rfl, ev_text] at h1
  exact ⟨h1, h2⟩
theorem kpairs_new (W : World) (cs : Array Value) (t : TypeId) (n : Nat) (xs : List (Int × Int)) (hn : n ≤ maxLen) (h : cs.toList = xs.flatMap pairC) (hl : xs.length = n) : PairsAt (W.alloc (.cells cs t)) (.slice (some ⟨W.heap.size, 0, none⟩) n n) xs := krow_new W cs t n xs hn h hl
set_option maxRecDepth 100000 in
set_option maxHeartbeats 8000000 in
theorem lknown_any (w : World) (ht : TabOk w) : Calls Tryz.prog 7 #[] w fun e w' => e = .returned (.bool true) ∧ Ext w w' := by
 have hmix : Tryz.prog.follows .mixedOrders = true := by kernel_rfl
 have HT := Lib.hid ht
 have hfl : ∀ (a : Option Addr) wq, (Instr.field 28 (.agg #[.slice a 3 3, .slice none 0 0]) 0).run Tryz.prog wq = .ok (.slice a 3 3) wq := fun _ _ => by kernel_rfl
 clear ht
 go_enter Tryz.func7, Tryz.ntmps7
 go_wp2_with fail
 refine (lB_any _).mono ?_
 rintro e x1 ⟨b1, rfl, y1, hb1⟩
 unfold bookEx
 go_wp2_with fail
 refine (lS_any _).mono ?_
 rintro e x2 ⟨s2, p2, q2, rfl, y2, hs2, hp2, hq2⟩
 unfold sackEx
 obtain ⟨hq1, hq2, hq3⟩ := hq2
 go_wp2_with fail
 refine (k_Could _ _ _ (hb1.ext y2) hq3).mono ?_
 rintro e x3 ⟨ca, cc, rfl, y3, hco⟩
 have HC0 := Lib.hid hco
 clear hco hq1 hq2 hq3 hb1 hs2 hp2
 go_wp2_with fail
 refine (lB_any _).mono ?_
 rintro e x4 ⟨b4, rfl, y4, hb4⟩
 unfold bookEx
 go_wp2_with fail
 refine (lS_any _).mono ?_
 rintro e x5 ⟨s5, p5, q5, rfl, y5, hs5, hp5, hq5⟩
 unfold sackEx
 obtain ⟨hq1, hq2, hq3⟩ := hp5
 go_wp2_with fail
 refine (k_Word _ _ _ (hb4.ext y5) hq3).mono ?_
 rintro e x6 ⟨rfl, y6⟩
 clear hq1 hq2 hq3 hb4 hs5 hq5
 go_wp2_with fail
 refine (lB_any _).mono ?_
 rintro e x7 ⟨b7, rfl, y7, hb7⟩
 unfold bookEx
 go_wp2_with fail
 refine (lS_any _).mono ?_
 rintro e x8 ⟨s8, p8, q8, rfl, y8, hs8, hp8, hq8⟩
 unfold sackEx
 go_wp2_with fail
 refine (k_Origins _ _ _ (hb7.ext y8) hs8).mono ?_
 rintro e x9 ⟨oa, oc, rfl, y9, hor⟩
 have HO0 := Lib.hid hor
 clear hor hb7 hs8 hp8 hq8
 go_wp2_with fail
 refine (lB_any _).mono ?_
 rintro e x10 ⟨b10, rfl, y10, hb10⟩
 unfold bookEx
 go_wp2_with fail
 refine (lS_any _).mono ?_
 rintro e x11 ⟨s11, p11, q11, rfl, y11, hs11, hp11, hq11⟩
 unfold sackEx
 go_wp2_with fail
 refine (k_Weather _ _ _ (hb10.ext y11) hs11).mono ?_
 rintro e x12 ⟨wG, wo, wc, wg, wp, wd, rfl, y12, hw0, hw1, hw2⟩
 have HW0 := Lib.hid (And.intro hw0 (And.intro hw1 hw2))
 clear hw0 hw1 hw2 hb10 hs11 hp11 hq11
 go_wp2_with fail
 refine (lB_any _).mono ?_
 rintro e x13 ⟨b13, rfl, y13, hb13⟩
 unfold bookEx
 go_wp2_with fail
 refine (lS_any _).mono ?_
 rintro e x14 ⟨s14, p14, q14, rfl, y14, hs14, hp14, hq14⟩
 unfold sackEx
 go_wp2_with fail
 refine (k_Closed _ _ _ (hb13.ext y14) hs14).mono ?_
 rintro e x15 ⟨rfl, y15⟩
 clear hb13 hs14 hp14 hq14
 have HBc := Lib.hid (World.alloc_heap_new x15 (.cells #[.int .i64 1, .int .i64 2] 52))
 go_wp2_with fail
 refine (lB_any _).mono ?_
 rintro e x16 ⟨b16, rfl, y16, hb16⟩
 unfold bookEx
 go_wp2_with fail
 refine (lS_any _).mono ?_
 rintro e x17 ⟨s17, p17, q17, rfl, y17, hs17, hp17, hq17⟩
 unfold sackEx
 go_wp2_with fail
 refine (k_Tests _ _ _ (hb16.ext y17) hs17).mono ?_
 rintro e x18 ⟨rfl, y18⟩
 clear hb16 hs17 hp17 hq17
 go_wp2_with fail
 refine (lB_any _).mono ?_
 rintro e x19 ⟨b19, rfl, y19, hb19⟩
 unfold bookEx
 go_wp2_with fail
 refine (k_Length _ _ hb19).mono ?_
 rintro e x20 ⟨rfl, y20⟩
 clear hb19
 have HBl := Lib.hid (World.alloc_heap_new x20 (.cells #[.int .i64 29, .int .i64 40] 52))
 go_wp2_with fail
 refine (lB_any _).mono ?_
 rintro e x21 ⟨b21, rfl, y21, hb21⟩
 unfold bookEx
 go_wp2_with fail
 refine (k_Ripe _ _ hb21).mono ?_
 rintro e x22 ⟨rfl, y22⟩
 clear hb21
 go_wp2_with fail
 refine (lB_any _).mono ?_
 rintro e x23 ⟨b23, rfl, y23, hb23⟩
 unfold bookEx
 go_wp2_with fail
 refine (lL_any _).mono ?_
 rintro e x24 ⟨lm, rfl, y24, hlm⟩
 go_wp2_with fail
 refine (lK_any _).mono ?_
 rintro e x25 ⟨km, rfl, y25, hkm⟩
 go_wp2_with fail
 refine (k_Deal _ _ _ _ (hb23.ext (y24.trans y25)) (RowOf.ext hlm y25) hkm).mono ?_
 rintro e x26 ⟨da, dc, rfl, y26, hde⟩
 have HD0 := Lib.hid hde
 clear hde hb23 hlm hkm
 go_wp2_with fail
 refine (lB_any _).mono ?_
 rintro e x27 ⟨b27, rfl, y27, hb27⟩
 unfold bookEx
 have eT := ((((((((((((((((((((((((((((((Ext.refl w).trans y1).trans y2).trans y3).trans y4).trans y5).trans y6).trans y7).trans y8).trans y9).trans y10).trans y11).trans y12).trans y13).trans y14).trans y15).alloc _).trans y16).trans y17).trans y18).trans y19).trans y20).alloc _).trans y21).trans y22).trans y23).trans y24).trans y25).trans y26).trans y27)
 have HTT := Lib.hid (HT.out.ext eT)
 clear eT
 go_wp2_with fail
 refine (k_Print _ _ hb27 HTT.out).mono ?_
 rintro e x28 ⟨rfl, y28⟩
 obtain ⟨wE, hwE⟩ : ∃ wE, wE = x28 := ⟨_, rfl⟩
 subst hwE
 have HCO := Lib.hid (fun W (h : Ext wE W) => HC0.out.ext (((((((((((((((((((((((((((((Ext.refl x3).trans y4).trans y5).trans y6).trans y7).trans y8).trans y9).trans y10).trans y11).trans y12).trans y13).trans y14).trans y15).alloc _).trans y16).trans y17).trans y18).trans y19).trans y20).alloc _).trans y21).trans y22).trans y23).trans y24).trans y25).trans y26).trans y27).trans y28).trans h))
 have HOR := Lib.hid (fun W (h : Ext wE W) => HO0.out.ext (((((((((((((((((((((((Ext.refl x9).trans y10).trans y11).trans y12).trans y13).trans y14).trans y15).alloc _).trans y16).trans y17).trans y18).trans y19).trans y20).alloc _).trans y21).trans y22).trans y23).trans y24).trans y25).trans y26).trans y27).trans y28).trans h))
 have HDE := Lib.hid (fun W (h : Ext wE W) => HD0.out.ext ((((Ext.refl x26).trans y27).trans y28).trans h))
 have HWC := Lib.hid (fun W (h : Ext wE W) => (⟨((((((((((((((((((((Ext.refl x12).trans y13).trans y14).trans y15).alloc _).trans y16).trans y17).trans y18).trans y19).trans y20).alloc _).trans y21).trans y22).trans y23).trans y24).trans y25).trans y26).trans y27).trans y28).trans h).cell HW0.out.1, ((((((((((((((((((((Ext.refl x12).trans y13).trans y14).trans y15).alloc _).trans y16).trans y17).trans y18).trans y19).trans y20).alloc _).trans y21).trans y22).trans y23).trans y24).trans y25).trans y26).trans y27).trans y28).trans h).cell HW0.out.2.1, ((((((((((((((((((((Ext.refl x12).trans y13).trans y14).trans y15).alloc _).trans y16).trans y17).trans y18).trans y19).trans y20).alloc _).trans y21).trans y22).trans y23).trans y24).trans y25).trans y26).trans y27).trans y28).trans h).cell HW0.out.2.2⟩ : W.cell? ⟨wG, wo, none⟩ = some (.slice (some ⟨wg, wp, none⟩) 4 wd) ∧ W.cell? ⟨wg, wp + 2, none⟩ = some (.int .i64 16) ∧ W.cell? ⟨wg, wp + 3, none⟩ = some (.int .i64 16)))
 have zc := ((((((((((((((y16.trans y17).trans y18).trans y19).trans y20).alloc _).trans y21).trans y22).trans y23).trans y24).trans y25).trans y26).trans y27).trans y28).block (Array.getElem?_eq_some_iff.1 HBc.out).1).trans HBc.out
 have zl := ((((((((y21.trans y22).trans y23).trans y24).trans y25).trans y26).trans y27).trans y28).block (Array.getElem?_eq_some_iff.1 HBl.out).1).trans HBl.out
 have HBC := Lib.hid (fun W (h : Ext wE W) => (by have d1 := (h.block (Array.getElem?_eq_some_iff.1 zc).1).trans zc; have d2 := (h.block (Array.getElem?_eq_some_iff.1 zl).1).trans zl; simp [World.cell?, d1, d2] : W.cell? ⟨x15.heap.size, 0, none⟩ = some (.int .i64 1) ∧ W.cell? ⟨x15.heap.size, 1, none⟩ = some (.int .i64 2) ∧ W.cell? ⟨x20.heap.size, 0, none⟩ = some (.int .i64 29) ∧ W.cell? ⟨x20.heap.size, 1, none⟩ = some (.int .i64 40)))
 have E9 := Lib.hid (((((((((((((((((((((((((((((((Ext.refl w).trans y1).trans y2).trans y3).trans y4).trans y5).trans y6).trans y7).trans y8).trans y9).trans y10).trans y11).trans y12).trans y13).trans y14).trans y15).alloc _).trans y16).trans y17).trans y18).trans y19).trans y20).alloc _).trans y21).trans y22).trans y23).trans y24).trans y25).trans y26).trans y27).trans y28)
 have hY : Ext wE wE := Ext.refl _
 clear zc zl HT HTT HC0 HO0 HW0 HBc HBl HD0 hb27 y1 y2 y3 y4 y5 y6 y7 y8 y9 y10 y11 y12 y13 y14 y15 y16 y17 y18 y19 y20 y21 y22 y23 y24 y25 y26 y27 y28
 generalize x15.heap.size = qc at *
 generalize x20.heap.size = ql at *
 go_wp2_with fail
 have hsg := span_guard
 have hsn := span_neq
 have hse := span_eql
 have tok1 : True := trivial
 go_region_held3 (fun w' => w'.cell? ⟨wG, wo, none⟩ = some (.slice (some ⟨wg, wp, none⟩) 4 wd) ∧ w'.cell? ⟨wg, wp + 2, none⟩ = some (.int .i64 16) ∧ w'.cell? ⟨wg, wp + 3, none⟩ = some (.int .i64 16)) (first | exact HWC.out _ (by repeat (first | assumption | exact Ext.refl _ | apply Ext.drew | apply Ext.alloc)))
  (first
   | (go_at_call 33; refine (lspan_any _ _ _).mono ?_; rintro e wz ⟨rfl, hz⟩; have hY : Ext wE wz := Ext.trans (by repeat (first | assumption | exact Ext.refl _ | apply Ext.drew | apply Ext.alloc)) hz; clear hz)
   | (go_at_call 32; refine (lorigin_any _ _ _).mono ?_; rintro e wz ⟨rfl, hz⟩; have hY : Ext wE wz := Ext.trans (by repeat (first | assumption | exact Ext.refl _ | apply Ext.drew | apply Ext.alloc)) hz; clear hz)
   | (go_at_call 18; have _t := tok1; refine (sameO_yes _ _ [(0, 0), (0, 1), (1, 0), (1, 3)] _ (HCO.out _ (by repeat (first | assumption | exact Ext.refl _ | apply Ext.drew | apply Ext.alloc))) (kpairs_new _ _ _ 4 _ four_le rfl rfl)).mono ?_; rintro e wz ⟨rfl, hz⟩; have hY : Ext wE wz := Ext.trans (by repeat (first | assumption | exact Ext.refl _ | apply Ext.drew | apply Ext.alloc)) hz; clear hz tok1 _t)
   | (go_at_call 18; refine (sameO_yes _ _ [(1, 1)] _ (HOR.out _ (by repeat (first | assumption | exact Ext.refl _ | apply Ext.drew | apply Ext.alloc))) (kpairs_new _ _ _ 1 _ one_le_maxLen rfl rfl)).mono ?_; rintro e wz ⟨rfl, hz⟩; have hY : Ext wE wz := Ext.trans (by repeat (first | assumption | exact Ext.refl _ | apply Ext.drew | apply Ext.alloc)) hz; clear hz))
 go_upto_region 15 with fail
 go_region_held3 (fun w' => w'.cell? ⟨qc, 0, none⟩ = some (.int .i64 1) ∧ w'.cell? ⟨qc, 1, none⟩ = some (.int .i64 2) ∧ w'.cell? ⟨ql, 0, none⟩ = some (.int .i64 29) ∧ w'.cell? ⟨ql, 1, none⟩ = some (.int .i64 40)) (first | exact HBC.out _ (by repeat (first | assumption | exact Ext.refl _ | apply Ext.drew | apply Ext.alloc)))
  (first
   | (go_at_call 33; refine (lspan_any _ _ _).mono ?_; rintro e wz ⟨rfl, hz⟩; have hY : Ext wE wz := Ext.trans (by repeat (first | assumption | exact Ext.refl _ | apply Ext.drew | apply Ext.alloc)) hz; clear hz)
   | (go_at_call 34; refine (same_yes _ _ [0, -1, 1, -1] _ (HDE.out _ (by repeat (first | assumption | exact Ext.refl _ | apply Ext.drew | apply Ext.alloc))) (kints_new _ _ 4 _ four_le rfl rfl)).mono ?_; rintro e wz ⟨rfl, hz⟩; have hY : Ext wE wz := Ext.trans (by repeat (first | assumption | exact Ext.refl _ | apply Ext.drew | apply Ext.alloc)) hz; clear hz))
 go_wp2_with fail
 go_ret
 exact ⟨rfl, E9.out.trans hY⟩
end Go.Proofs.YtiodjapdiflphaaGreatDoor
