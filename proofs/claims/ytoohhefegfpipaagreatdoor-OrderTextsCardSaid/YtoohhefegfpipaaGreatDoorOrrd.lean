/- The reference's Read. -/
import Derived.Test.YtoohhefegfpipaaGreatDoorOrsn
import Derived.Test.YtoohhefegfpipaaGreatDoorOpr
namespace Go.Proofs.YtoohhefegfpipaaGreatDoor
open Go.RowKit
/-- What the reference's Read holds on to: the book as far as it is read, the lines, the place of its answer. -/
structure RdI (w : World) (LS : List (List UInt8)) (sg cap : Nat) (b : Book) (gv ev : Value) (wr : World) : Prop where
 par : ParI (w.heap.size + 1) b gv ev wr
 strs : wr.ownsRow (w.heap.size + 2) 9 1 (.slice (some ⟨sg, 0, none⟩) LS.length cap) LS.length (LS.map strV)
 res : wr.heap[w.heap.size]? = some (.cells #[.slice none 0 0, .int .i64 0, .int .i64 0, .slice none 0 0] 25 (0, 0))
 ext : Ext w wr
theorem RdI.on {w wr wr' : World} {LS : List (List UInt8)} {sg cap : Nat} {b : Book} {gv ev : Value} (h : RdI w LS sg cap b gv ev wr) (x : Ext wr wr') : RdI w LS sg cap b gv ev wr' :=
 ⟨h.par.ext x, owns_ext h.strs x, (x.block (Array.getElem?_eq_some_iff.1 h.res).1).trans h.res, h.ext.trans x⟩
theorem RdI.good {w wr W7 : World} {LS : List (List UInt8)} {sg cap g cap7 : Nat} {b : Book} {gv ev : Value} {x : Int} {cs : Array Value} {t : TypeId} (h : RdI w LS sg cap b gv ev wr) (hgr : (wr.alloc (.cells cs t)).grownBy W7 gv.ownBlock) (hown : W7.ownsRow (w.heap.size + 1 + 1) 124 1 (.slice (some ⟨g, 0, none⟩) (b.goods.length + 0 + 1) cap7) (b.goods.length + 0 + 1) (b.goods.map (.int .i64) ++ [.int .i64 x])) :
 RdI w LS sg cap { b with goods := b.goods ++ [x] } (.slice (some ⟨g, 0, none⟩) (b.goods.length + 0 + 1) cap7) ev (W7.setCell ⟨w.heap.size + 1, 0, none⟩ (.slice (some ⟨g, 0, none⟩) (b.goods.length + 0 + 1) cap7)) := by
 have h1 := kept_push hgr h.res (owns_block h.par.2.1) (by omega)
 have h3 := owns_grown hgr h.strs (fun g hg e => owns_apart h.strs h.par.2.1 (by decide) g hg e)
 have hT := Touch.setCell (M := (· = w.heap.size + 1)) (A := W7) (a := ⟨w.heap.size + 1, 0, none⟩) (.slice (some ⟨g, 0, none⟩) (b.goods.length + 0 + 1) cap7) rfl
 exact ⟨h.par.good hgr hown, owns_touch h3 hT (fun g hg e => by have := owns_block h3 g hg; omega), hT.keep _ _ h1 (by omega), ((h.ext.alloc _).grown hgr (fun q hq => by have := owns_block h.par.2.1 q hq; omega)).setCell (p := ⟨w.heap.size + 1, 0, none⟩) (by simp) _⟩
theorem RdI.entry {w wr W7 : World} {LS : List (List UInt8)} {sg cap g cap7 : Nat} {b : Book} {gv ev : Value} {x : Int × Int × Int} {cs : Array Value} {t : TypeId} (h : RdI w LS sg cap b gv ev wr) (hgr : (wr.alloc (.cells cs t)).grownBy W7 ev.ownBlock) (hown : W7.ownsRow (w.heap.size + 1 + 1) 126 3 (.slice (some ⟨g, 0, none⟩) (b.entries.length + 0 + 1) cap7) (b.entries.length + 0 + 1) (b.entries.flatMap entryC ++ [.int .i64 x.1, .int .i64 x.2.1, .int .i64 x.2.2])) :
 RdI w LS sg cap { b with entries := b.entries ++ [x] } gv (.slice (some ⟨g, 0, none⟩) (b.entries.length + 0 + 1) cap7) (W7.setCell ⟨w.heap.size + 1, 3, none⟩ (.slice (some ⟨g, 0, none⟩) (b.entries.length + 0 + 1) cap7)) := by
 have h1 := kept_push hgr h.res (owns_block h.par.2.2) (by omega)
 have h3 := owns_grown hgr h.strs (fun g hg e => owns_apart h.strs h.par.2.2 (by decide) g hg e)
 have hT := Touch.setCell (M := (· = w.heap.size + 1)) (A := W7) (a := ⟨w.heap.size + 1, 3, none⟩) (.slice (some ⟨g, 0, none⟩) (b.entries.length + 0 + 1) cap7) rfl
 exact ⟨h.par.entry hgr hown, owns_touch h3 hT (fun g hg e => by have := owns_block h3 g hg; omega), hT.keep _ _ h1 (by omega), ((h.ext.alloc _).grown hgr (fun q hq => by have := owns_block h.par.2.2 q hq; omega)).setCell (p := ⟨w.heap.size + 1, 3, none⟩) (by simp) _⟩
theorem RdI.head {w wr : World} {LS : List (List UInt8)} {sg cap : Nat} {b : Book} {gv ev : Value} (h : RdI w LS sg cap b gv ev wr) (x y : Int) :
 RdI w LS sg cap { b with editions := x, moves := y } gv ev ((wr.setCell ⟨w.heap.size + 1, 1, none⟩ (.int .i64 x)).setCell ⟨w.heap.size + 1, 2, none⟩ (.int .i64 y)) := by
 have hT : Touch (· = w.heap.size + 1) wr ((wr.setCell ⟨w.heap.size + 1, 1, none⟩ (.int .i64 x)).setCell ⟨w.heap.size + 1, 2, none⟩ (.int .i64 y)) := (Touch.setCell (M := (· = w.heap.size + 1)) (a := ⟨w.heap.size + 1, 1, none⟩) _ rfl).trans (Touch.setCell (a := ⟨w.heap.size + 1, 2, none⟩) _ rfl)
 refine ⟨⟨setCell_block (i := 2) (setCell_block (i := 1) h.par.1), owns_touch h.par.2.1 hT (fun g hg e => ?_), owns_touch h.par.2.2 hT (fun g hg e => ?_)⟩, owns_touch h.strs hT (fun g hg e => ?_), hT.keep _ _ h.res (by omega), (h.ext.setCell (p := ⟨w.heap.size + 1, 1, none⟩) (by simp) _).setCell (p := ⟨w.heap.size + 1, 2, none⟩) (by simp) _⟩
 ·have := owns_block h.par.2.1 g hg; omega
 ·have := owns_block h.par.2.2 g hg; omega
 ·have := owns_block h.strs g hg; omega
theorem no_text {s : List UInt8} {i : Nat} {b : Book} (hi : i < (splitL 10 s).length - 2) (hb : rreadB (splitL 10 s) i = some b) (h : rstepB b ((splitL 10 s).getD i []) = none) : isTextB s = false := by
 cases ht : isTextB s with
 | false => rfl
 | true =>
  have h1 := rread_yes ht
  rw [← rread_succ hb] at h
  have h2 := rread_none h ((splitL 10 s).length - 2 - (i + 1))
  rw [show i + 1 + ((splitL 10 s).length - 2 - (i + 1)) = (splitL 10 s).length - 2 by omega, h1] at h2
  cases h2
theorem not_all {l : List UInt8} {j : Nat} (hj : j + 1 < (splitL 32 l).length) (h : numOk ((splitL 32 l).getD (1 + j) []) = false) : allNum l = false := by
 cases ha : allNum l with
 | false => rfl
 | true =>
  unfold allNum at ha
  rw [List.all_eq_true] at ha
  have := ha ((splitL 32 l).getD (1 + j) []) (by
   refine List.mem_of_getElem? (i := j) ?_
   rw [List.getElem?_drop, List.getD_eq_getElem?_getD, List.getElem?_eq_getElem (by omega)]; rfl)
  rw [h] at this; cases this
theorem all_num {l : List UInt8} {M : Nat} (hM : (splitL 32 l).length = M + 1) (h : ∀ k, k < M → numOk ((splitL 32 l).getD (1 + k) []) = true) : allNum l = true := by
 unfold allNum
 rw [List.all_eq_true]
 intro x hx
 obtain ⟨j, hj⟩ := List.getElem?_of_mem hx
 rw [List.getElem?_drop] at hj
 have hlt := (List.getElem?_eq_some_iff.1 hj).1
 have := h j (by omega)
 rwa [List.getD_eq_getElem?_getD, hj] at this
theorem row_int {W : World} {base g n c : Nat} {ns : List Int} (h : W.ownsRow base 3 1 (.slice (some ⟨g, 0, none⟩) n c) ns.length (ns.map (.int .i64))) {i : Nat} (hi : i < ns.length) : W.cell? ⟨g, i, none⟩ = some (.int .i64 (ns.getD i 0)) := ints_at h hi
def RReadPost (s : List UInt8) (w : World) (e : Ending) (w' : World) : Prop := ∃ (v : Value) (bo : Bool), e = .returned (.tuple #[v, .bool bo]) ∧ Ext w w' ∧ ((isTextB s = true ∧ bo = true ∧ BookAt w' v (bookOf s)) ∨ (isTextB s = false ∧ bo = false ∧ v = zeroBk))
set_option maxRecDepth 100000 in
set_option maxHeartbeats 16000000 in
theorem rread_any (s : List UInt8) (w : World) (hs : s.length ≤ 400) : Calls Tryz.prog 45 #[strV s] w (RReadPost s w) := by
 have hmix : Tryz.prog.follows .mixedOrders = true := by kernel_rfl
 obtain ⟨W, HW⟩ : ∃ W, Hid (W = (w.alloc zeroBox).alloc zeroBox) := ⟨_, rfl⟩
 have hX0 : Ext w W := by rw [HW.out]; exact ((Ext.refl w).alloc _).alloc _
 have hWS : W.heap.size = w.heap.size + 2 := by rw [HW.out]; simp
 have hB0 : W.heap[w.heap.size]? = some (.cells #[.slice none 0 0, .int .i64 0, .int .i64 0, .slice none 0 0] 25 (0, 0)) := by
  rw [HW.out]
  exact (Ext.block ((Ext.refl (w.alloc zeroBox)).alloc zeroBox) (b := w.heap.size) (by simp)).trans (World.alloc_heap_new w zeroBox)
 have hB1 : W.heap[w.heap.size + 1]? = some (.cells #[.slice none 0 0, .int .i64 0, .int .i64 0, .slice none 0 0] 25 (0, 0)) := by
  rw [HW.out]
  have h := World.alloc_heap_new (w.alloc zeroBox) zeroBox
  rwa [World.size_alloc] at h
 have HSP := Lib.hid (rsplit_any s 10 W (by omega))
 obtain ⟨LS, hLS⟩ : ∃ LS, splitL 10 s = LS := ⟨_, rfl⟩
 have HNT := Lib.hid (fun (i : Nat) (b : Book) (hi : i < (splitL 10 s).length - 2) (hb : rreadB (splitL 10 s) i = some b) (h : rstepB b ((splitL 10 s).getD i []) = none) => no_text hi hb h)
 have hpos : 0 < (splitL 10 s).length := List.length_pos_iff.2 (splitL_ne 10 s)
 have hcnt := split_count 10 s
 have HSH := Lib.hid (fun (l : List UInt8) (h : l ∈ splitL 10 s) => split_short 10 h)
 have HYES := Lib.hid (fun h => rread_yes (s := s) h)
 rw [hLS] at HSP HNT hpos hcnt HSH HYES
 have HRD0 := Lib.hid (fun sg cap w1 (hx : Ext W w1) (hst : w1.ownsRow W.heap.size 9 1 (.slice (some ⟨sg, 0, none⟩) LS.length cap) LS.length (LS.map strV)) => (show RdI w LS sg cap startB (.slice none 0 0) (.slice none 0 0) w1 from ⟨⟨(hx.block (by rw [hWS]; omega)).trans hB1, World.ownsRow_nil _ _ _ _, World.ownsRow_nil _ _ _ _⟩, by rw [← hWS]; exact hst, (hx.block (by rw [hWS]; omega)).trans hB0, hX0.trans hx⟩))
 have HLP := Lib.hid hpos
 have hL4 : LS.length ≤ 401 := by omega
 have E1 : IntKind.i64.wrap ((LS.length : Int) - 2) = (LS.length : Int) - 2 := IntWalk.i64_in _ (by omega)
 have HLS := Lib.hid hLS
 have HSL := Lib.hid hs
 clear hX0 hWS hB0 hB1 hpos hcnt hLS hs
 go_enter Tryz.func45, Tryz.ntmps45
 go_upto_region 2 with fail
 rw [← HW.out]
 go_wp2_with (go_at_call 88; refine HSP.out.mono ?_; rintro e w1 ⟨v, rfl, hx1, hst⟩; obtain ⟨sg, cap, rfl, _, _⟩ := owns_some hst HLP.out; have HRD := Lib.hid (HRD0.out sg cap w1 hx1 hst); clear hx1 hst HSP HRD0)
 go_loopw [6] (fun j wr => ∃ (i : Nat) (b : Book) (gv ev : Value), i ≤ LS.length - 2 ∧ j = .int .i64 (i : Int) ∧ Hid (rreadB LS i = some b) ∧ Hid (RdI w LS sg cap b gv ev wr)) (fun j _ => LS.length - 2 - (intOf j).toNat)
 case atStart => exact ⟨0, startB, _, _, Nat.zero_le _, rfl, rfl, HRD.out⟩
 case round =>
  clear HRD
  obtain ⟨i, b, gv, ev, hi, rfl, hrb, hrd⟩ := hrel
  obtain ⟨wo, rfl⟩ : ∃ wo : World, wo = wr := ⟨_, rfl⟩
  have HRB := Lib.hid hrb.out
  have HRI := Lib.hid hrd.out
  clear hrb hrd
  obtain ⟨va, vc, rfl, _⟩ := RowAt.open (RowAt.of_owns HRI.out.par.2.1)
  obtain ⟨ea, ec, rfl, _⟩ := RowAt.open (RowAt.of_owns HRI.out.par.2.2)
  by_cases hlt : i < LS.length - 2
  ·have x1 : decide ((i : Int) < (LS.length : Int) - 2) = true := by simp; omega
   have i1 : (0 : Int) ≤ (i : Int) := by omega
   have i2 : (i : Int) < (LS.length : Int) := by omega
   obtain ⟨l, hl⟩ : ∃ l, LS[i]? = some l := ⟨_, List.getElem?_eq_getElem (by omega)⟩
   have hgl : LS.getD i [] = l := by rw [List.getD_eq_getElem?_getD, hl]; rfl
   have hll : l.length ≤ 400 := Nat.le_trans (HSH.out l (List.mem_of_getElem? hl)) HSL.out
   have z1 : wo.cell? ⟨sg, i, none⟩ = some (strV l) := by rw [HRI.out.strs.cellAt i (by omega), List.getElem?_map, hl]; rfl
   have HNX := Lib.hid (HNT.out i b hlt HRB.out)
   rw [hgl] at HNX
   have HST := Lib.hid (fun b' (h : rstepB b l = some b') => (show rreadB LS (i + 1) = some b' by rw [rread_succ HRB.out, hgl, h]))
   have HS2 := Lib.hid (rsplit_any l 32 wo (by omega))
   have hpos : 0 < (splitL 32 l).length := List.length_pos_iff.2 (splitL_ne 32 l)
   have hcn2 := split_count 32 l
   obtain ⟨M, hM⟩ : ∃ M, (splitL 32 l).length = M + 1 := ⟨(splitL 32 l).length - 1, by omega⟩
   have hM4 : M ≤ 401 := by omega
   have HM := Lib.hid hM
   have HMT : Hid ((toldN l).length = M) := by unfold Hid toldN; rw [List.length_map, List.length_drop]; omega
   obtain ⟨w0, hw0⟩ : ∃ w0, (splitL 32 l)[0]? = some w0 := ⟨_, List.getElem?_eq_getElem hpos⟩
   have HW0 : Hid (headW l = w0) := by
    unfold Hid headW
    cases h : splitL 32 l with
    | nil => exact absurd h (splitL_ne 32 l)
    | cons x t => rw [h] at hw0; simpa using hw0
   have HWZ := Lib.hid hw0
   rw [hM] at HS2
   clear hl hgl hll hpos hcn2 hM hw0
   go_wp2_with (go_at_call 88; refine HS2.out.mono ?_; rintro e w5 ⟨v2, rfl, hx5, hs5⟩; obtain ⟨tg, cap2, rfl⟩ := owns_succ hs5; have HTS := Lib.hid hs5; have HX5 := Lib.hid hx5; clear hx5 hs5 HS2 z1)
   have HSC : Hid (∀ j x, (splitL 32 l)[j]? = some x → w5.cell? ⟨tg, j, none⟩ = some (strV x)) := fun j x hj => by
    have := HTS.out.cellAt j (by have := (List.getElem?_eq_some_iff.1 hj).1; have := HM.out; omega)
    rw [this, List.getElem?_map, hj]; rfl
   have HR5 := Lib.hid (HRI.out.on HX5.out)
   clear HRI
   go_loopw [8, 9] (fun xv iv wr => ∃ j : Nat, j ≤ M ∧ iv = .int .i64 ((j : Int) + 1) ∧ Hid (∀ k, k < j → numOk ((splitL 32 l).getD (1 + k) []) = true) ∧ Hid (wr.ownsRow w5.heap.size 3 1 xv j (((toldN l).take j).map (.int .i64))) ∧ Ext w5 wr) (fun _ iv _ => M + 1 - (intOf iv).toNat)
   case atStart => exact ⟨0, Nat.zero_le _, rfl, (fun k hk => by omega), World.ownsRow_nil _ _ _ _, Ext.refl _⟩
   case round =>
    obtain ⟨j, hj, rfl, hall, hown, hx⟩ := hrel
    obtain ⟨wk, rfl⟩ : ∃ wk : World, wk = wr := ⟨_, rfl⟩
    have HOWN := Lib.hid hown.out
    have HXK := Lib.hid hx
    have HAL := Lib.hid hall.out
    clear hown hx hall
    by_cases hlt2 : j < M
    ·obtain ⟨x, hx⟩ : ∃ x, (splitL 32 l)[j + 1]? = some x := ⟨_, List.getElem?_eq_getElem (by rw [HM.out]; omega)⟩
     have z1 := HXK.out.cell (HSC.out (j + 1) x hx)
     have x1' : decide ((j : Int) + 1 < (M : Int) + 1) = true := by simp; omega
     have x1'' : decide ((j : Int) < (M : Int)) = true := by simp; omega
     have x2 : (j : Int) + 1 < (M : Int) + 1 := by omega
     have x3 : (0 : Int) ≤ (j : Int) + 1 := by omega
     have x4 : ((j : Int) + 1).toNat = j + 1 := by omega
     have x5 : IntKind.i64.wrap ((j : Int) + 1 + 1) = (j : Int) + 1 + 1 := IntWalk.i64_in _ (by omega)
     have hgd : (splitL 32 l).getD (1 + j) [] = x := by rw [Nat.add_comm, List.getD_eq_getElem?_getD, hx]; rfl
     have HN := Lib.hid (fun w1 => rnumber_any x w1)
     cases hok : numOk x with
     | false =>
      have hnr : numR x = -1 := by unfold numR; rw [hok]; rfl
      have HNO : Hid (isTextB s = false) := HNX.out (by unfold rstepB; rw [if_neg (by rw [not_all (j := j) (by rw [HM.out]; omega) (by rw [hgd, hok])]; simp)])
      rw [hnr] at HN
      clear hgd hok hnr hx
      go_upto_region 12 with (go_at_call 89; refine (HN.out _).mono ?_; rintro e w7 ⟨rfl, hx7⟩; have HR7 := Lib.hid (HR5.out.on (HXK.out.trans hx7)); clear hx7)
      obtain ⟨⟨a0, a1, a2, a3⟩, f0, f1, f2, f3⟩ := block4 HR7.out.res
      go_wp2
      obtain ⟨⟨r0, r1, r2, r3⟩, -⟩ := block4 (store4_block HR7.out.res (.slice none 0 0) (.int .i64 0) (.int .i64 0) (.slice none 0 0))
      refine bodyPost_ret (v := .tuple #[zeroBk, .bool false]) (by simp only [store4] at r0 r1 r2 r3; simp [results, Tryz.results45, go_sem, r0, r1, r2, r3]) rfl ?_
      exact ⟨_, _, rfl, store4_ext HR7.out.ext (Nat.le_refl _) _ _ _ _, .inr ⟨HNO.out, rfl, rfl⟩⟩
     | true =>
      obtain ⟨n0, n1, -⟩ := num_ok hok
      have hnr : numR x = valT x := by unfold numR; rw [hok]; rfl
      have hng : decide (valT x < 0) = false := by simp; omega
      have HSZ := Lib.hid (show j + 1 ≤ maxLen ∧ (j + 1) * 8 ≤ 140737488355328 by unfold maxLen; omega)
      have HAL2 : Hid (∀ k, k < j + 1 → numOk ((splitL 32 l).getD (1 + k) []) = true) := fun k hk => by
       by_cases e : k = j
       ·rw [e, hgd, hok]
       ·exact HAL.out k (by omega)
      have htk : (toldN l).take (j + 1) = (toldN l).take j ++ [valT x] := by
       rw [List.take_add_one]
       unfold toldN
       rw [List.getElem?_map, List.getElem?_drop, Nat.add_comm 1 j, hx]; rfl
      have HTK := Lib.hid htk
      rw [hnr] at HN
      generalize valT x = y at *
      clear hgd hok hnr hx htk n0 n1
      go_wp2_with (first
       | (go_at_call 89; refine (HN.out _).mono ?_; rintro e w7 ⟨rfl, hx7⟩; have HX7 := Lib.hid (HXK.out.trans hx7); have HO7 := Lib.hid (owns_ext HOWN.out hx7); clear hx7)
       | (at_builtin; refine wpList_push E_ints rfl _ _ rfl w5.heap.size rfl HO7.out rfl rfl (by simp [Value.oneCell']) ?_ HSZ.out.1 HSZ.out.2 HX7.out.size; intro g8 cap8 w8 hown8 hext8 _; have HO8 := Lib.hid hown8; have HX8 := Lib.hid (hext8 _ HX7.out (Nat.le_refl _)); clear hown8 hext8))
      exact ⟨⟨j + 1, by omega, by go_num, HAL2.out, by unfold Hid; rw [HTK.out, List.map_append]; exact HO8.out, HX8.out⟩, by simp [intOf]; omega⟩
    ·have hje : j = M := by omega
     subst hje
     have x1' : decide ((j : Int) + 1 < (j : Int) + 1) = false := by simp
     have HAN : Hid (allNum l = true) := all_num HM.out HAL.out
     have hon := HOWN.out
     rw [List.take_of_length_le (by rw [HMT.out]; exact Nat.le_refl _)] at hon
     have z0 := HXK.out.cell (HSC.out 0 w0 HWZ.out)
     have b0 : (0 : Int) < (j : Int) + 1 := by omega
     have HON := Lib.hid hon
     have HR6 := Lib.hid (HR5.out.on HXK.out)
     have HPT : Hid (rstepB b l = putB b l) := by unfold Hid rstepB; rw [if_pos HAN.out]
     clear hon
     clear hj
     by_cases hw1 : w0 = wBook
     ·have c1 : (w0 == [98, 111, 111, 107]) = true := by rw [beq_iff_eq]; exact hw1
      by_cases h2 : j = 2
      ·have n1 : ((j : Int) != 2) = false := by rw [h2]; rfl
       have n2 : ((j : Int) == 2) = true := by rw [h2]; rfl
       have HPUT : Hid (rstepB b l = some { b with editions := (toldN l).getD 0 0, moves := (toldN l).getD 1 0 }) := by unfold Hid; rw [HPT.out]; unfold putB; rw [HW0.out, HMT.out, if_pos hw1, if_pos h2]
       clear HNX HPT
       have ho := HON.out
       rw [h2] at ho
       obtain ⟨tb, tc, rfl⟩ := owns_succ (k := 1) ho
       clear ho
       have htb : w.heap.size + 1 < tb := Nat.lt_of_lt_of_le (Array.getElem?_eq_some_iff.1 HR5.out.par.1).1 (owns_block HON.out tb rfl)
       have hln : (toldN l).length = 2 := HMT.out.trans h2
       have hv6 : wk.ownsRow w5.heap.size 3 1 (.slice (some ⟨tb, 0, none⟩) (1 + 1) tc) (toldN l).length ((toldN l).map (.int .i64)) := by rw [hln]; exact h2 ▸ HON.out
       obtain ⟨ms, hms⟩ : ∃ ms, toldN l = ms := ⟨_, rfl⟩
       rw [hms] at HPUT hln hv6
       have HRD := Lib.hid (HR6.out.on (Ext.refl wk).drew)
       have HI6 := Lib.hid HRD.out.par
       have HLN := Lib.hid hln
       have HV6 : Hid ((World.drew wk).ownsRow w5.heap.size 3 1 (.slice (some ⟨tb, 0, none⟩) (1 + 1) tc) ms.length (ms.map (.int .i64))) := owns_ext hv6 (Ext.refl wk).drew
       have hbs := (Array.getElem?_eq_some_iff.1 HI6.out.1).1
       have hrl := rread_len HRB.out
       have hi4 : i ≤ 401 := by omega
       have d0 : wk.cell? ⟨tb, 0, none⟩ = some (.int .i64 (ms.getD 0 0)) := ints_at hv6 (by omega)
       have d1 : wk.cell? ⟨tb, 1, none⟩ = some (.int .i64 (ms.getD 1 0)) := ints_at hv6 (by omega)
       generalize ms.getD 0 0 = x at d0 HPUT
       generalize ms.getD 1 0 = y at d1 HPUT
       have g1 := (block_cell HR6.out.par.1 (i := 1) rfl).1
       have f1 := (block_cell HR6.out.par.1 (i := 1) rfl).2
       have g2 := (block_cell HR6.out.par.1 (i := 2) rfl).1
       have f2 := (block_cell HR6.out.par.1 (i := 2) rfl).2
       have HR9 := Lib.hid ((HR6.out.head x y).on (Ext.refl _).drew)
       have HNE := Lib.hid (show ¬ tb = w.heap.size + 1 by omega)
       clear hv6 hms hln hrl h2
       go_upto_region 20 with fail
       refine wp_region_noPanic ?_
       refine wp_region_any (by kernel_rfl) (wpAny_of_till (z := 9) (S := (fun w' => w'.cell? ⟨tb, 0, none⟩ = some (.int .i64 x) ∧ w'.cell? ⟨tb, 1, none⟩ = some (.int .i64 y))) _ _ _ _ ?_)
       change wpTill _ _ _ _ _ _ _ _ _ wk.drew
       have hS0 := (show (World.drew wk).cell? ⟨tb, 0, none⟩ = some (.int .i64 x) ∧ (World.drew wk).cell? ⟨tb, 1, none⟩ = some (.int .i64 y) from ⟨d0, d1⟩)
       refine till_at (i := 0) (d := some 53) (v := ?_) (by kernel_rfl) (by kernel_rfl) (by kernel_rfl) (by kernel_rfl) (by kernel_rfl) (fun _ _ _ h => h) (fun o ho => ?_) hS0 ?_
       rotate_left
       ·simp only [zA, zB, zD] at ho
        subst ho
        refine Or.inl ⟨by rfl, fun w' hSw => ?_⟩
        obtain ⟨hSw0, hSw1⟩ := hSw
        go_simp
        try with_reducible rfl
       try simp only [Act.put, yA, yB, yC]
       refine till_at (i := 1) (d := some 54) (v := ?_) (by kernel_rfl) (by kernel_rfl) (by kernel_rfl) (by kernel_rfl) (by kernel_rfl) (fun _ _ _ h => h) (fun o ho => ?_) hS0 ?_
       rotate_left
       ·simp only [zA, zB, zC, zD] at ho
        subst ho
        refine Or.inl ⟨by rfl, fun w' hSw => ?_⟩
        obtain ⟨hSw0, hSw1⟩ := hSw
        go_simp
        try with_reducible rfl
       try simp only [Act.put, yA, yB, yC]
       refine till_at (i := 2) (d := some 55) (v := ?_) (by kernel_rfl) (by kernel_rfl) (by kernel_rfl) (by kernel_rfl) (by kernel_rfl) (fun _ _ _ h => h) (fun o ho => ?_) hS0 ?_
       rotate_left
       ·simp only [zA, zB, zC, zD] at ho
        subst ho
        refine Or.inl ⟨by rfl, fun w' hSw => ?_⟩
        obtain ⟨hSw0, hSw1⟩ := hSw
        go_simp
        try with_reducible rfl
       try simp only [Act.put, yA, yB, yC]
       refine till_at (i := 3) (d := some 56) (v := ?_) (by kernel_rfl) (by kernel_rfl) (by kernel_rfl) (by kernel_rfl) (by kernel_rfl) (fun _ _ _ h => h) (fun o ho => ?_) hS0 ?_
       rotate_left
       ·simp only [zA, zB, zC, zD] at ho
        subst ho
        refine Or.inl ⟨by rfl, fun w' hSw => ?_⟩
        obtain ⟨hSw0, hSw1⟩ := hSw
        go_simp
        try with_reducible rfl
       try simp only [Act.put, yA, yB, yC]
       refine till_at (i := 4) (d := some 57) (v := ?_) (by kernel_rfl) (by kernel_rfl) (by kernel_rfl) (by kernel_rfl) (by kernel_rfl) (fun _ _ _ h => h) (fun o ho => ?_) hS0 ?_
       rotate_left
       ·simp only [zA, zB, zC, zD] at ho
        subst ho
        refine Or.inl ⟨by rfl, fun w' hSw => ?_⟩
        obtain ⟨hSw0, hSw1⟩ := hSw
        go_simp
        try with_reducible rfl
       try simp only [Act.put, yA, yB, yC]
       refine till_at (i := 5) (d := some 58) (v := ?_) (by kernel_rfl) (by kernel_rfl) (by kernel_rfl) (by kernel_rfl) (by kernel_rfl) (fun _ _ _ h => h) (fun o ho => ?_) hS0 ?_
       rotate_left
       ·simp only [zA, zB, zC, zD] at ho
        subst ho
        refine Or.inl ⟨by rfl, fun w' hSw => ?_⟩
        obtain ⟨hSw0, hSw1⟩ := hSw
        go_simp
        try with_reducible rfl
       try simp only [Act.put, yA, yB, yC]
       refine till_at (i := 6) (d := some 59) (v := ?_) (by kernel_rfl) (by kernel_rfl) (by kernel_rfl) (by kernel_rfl) (by kernel_rfl) (fun _ _ _ h => h) (fun o ho => ?_) hS0 ?_
       rotate_left
       ·simp only [zA, zB, zC, zD] at ho
        subst ho
        refine Or.inl ⟨by rfl, fun w' hSw => ?_⟩
        obtain ⟨hSw0, hSw1⟩ := hSw
        go_simp
        try with_reducible rfl
       try simp only [Act.put, yA, yB, yC]
       refine till_step (i := 7) (by kernel_rfl) (by kernel_rfl) (fun o ho K' hK => ?_)
       simp only [zA, zB, zC, zD] at ho
       subst ho
       go_simp
       have hS7 := (show ((World.drew wk).setCell ⟨w.heap.size + 1, 1, none⟩ (.int .i64 x)).cell? ⟨tb, 0, none⟩ = some (.int .i64 x) ∧ ((World.drew wk).setCell ⟨w.heap.size + 1, 1, none⟩ (.int .i64 x)).cell? ⟨tb, 1, none⟩ = some (.int .i64 y) from ⟨(Touch.setCell (M := (· = w.heap.size + 1)) (a := ⟨w.heap.size + 1, 1, none⟩) _ rfl).cell (show (World.drew wk).cell? ⟨tb, 0, none⟩ = _ from d0) HNE.out, (Touch.setCell (M := (· = w.heap.size + 1)) (a := ⟨w.heap.size + 1, 1, none⟩) _ rfl).cell (show (World.drew wk).cell? ⟨tb, 1, none⟩ = _ from d1) HNE.out⟩)
       refine hK.out _ _ (fun _ => hS7) (fun _ => ?_)
       clear hK K'
       try simp only [Act.put, yA, yB, yC]
       refine till_at (i := 8) (d := some 60) (v := ?_) (by kernel_rfl) (by kernel_rfl) (by kernel_rfl) (by kernel_rfl) (by kernel_rfl) (fun _ _ _ h => h) (fun o ho => ?_) hS7 ?_
       rotate_left
       ·simp only [zA, zB, zC, zD] at ho
        subst ho
        refine Or.inl ⟨by rfl, fun w' hSw => ?_⟩
        obtain ⟨hSw0, hSw1⟩ := hSw
        go_simp
        try with_reducible rfl
       try simp only [Act.put, yA, yB, yC]
       refine till_step (i := 9) (by kernel_rfl) (by kernel_rfl) (fun o ho K' hK => ?_)
       simp only [zA, zB, zC, zD] at ho
       subst ho
       go_simp
       refine hK.out _ _ (fun h => absurd rfl h) (fun _ => ?_)
       clear hK K'
       try simp only [Act.put, yA, yB, yC]
       refine till_done (by kernel_rfl) ?_ _
       refine NoPanic.normal ?_
       try simp only [Act.put, yA, yB, yC]
       clear HRD HI6 HV6 HR5
       go_wp2
       exact ⟨⟨i + 1, _, _, _, by omega, by go_num, HST.out _ HPUT.out, HR9.out⟩, by simp [intOf]; omega⟩
      ·have n1 : ((j : Int) != 2) = true := by simp; omega
       have n2 : ((j : Int) == 2) = false := by simp; omega
       have HNO : Hid (isTextB s = false) := HNX.out (by rw [HPT.out]; unfold putB; rw [HW0.out, HMT.out, if_pos hw1, if_neg h2])
       obtain ⟨xa, xc, rfl, _⟩ := RowAt.open (RowAt.of_owns HON.out)
       obtain ⟨⟨a0, a1, a2, a3⟩, f0, f1, f2, f3⟩ := block4 HR6.out.res
       clear HNX HPT
       go_wp2
       obtain ⟨⟨r0, r1, r2, r3⟩, -⟩ := block4 (store4_block HR6.out.res (.slice none 0 0) (.int .i64 0) (.int .i64 0) (.slice none 0 0))
       refine bodyPost_ret (v := .tuple #[zeroBk, .bool false]) (by simp only [store4] at r0 r1 r2 r3; simp [results, Tryz.results45, go_sem, r0, r1, r2, r3]) rfl ?_
       exact ⟨_, _, rfl, store4_ext HR6.out.ext (Nat.le_refl _) _ _ _ _, .inr ⟨HNO.out, rfl, rfl⟩⟩
     have c1 : (w0 == [98, 111, 111, 107]) = false := by rw [beq_eq_false_iff_ne]; exact hw1
     by_cases hw2 : w0 = wGood
     ·have c2 : (w0 == [103, 111, 111, 100]) = true := by rw [beq_iff_eq]; exact hw2
      by_cases h2 : j = 1
      ·have n1 : ((j : Int) != 1) = false := by rw [h2]; rfl
       have n2 : ((j : Int) == 1) = true := by rw [h2]; rfl
       have HPUT : Hid (rstepB b l = some { b with goods := b.goods ++ [(toldN l).getD 0 0] }) := by unfold Hid; rw [HPT.out]; unfold putB; rw [HW0.out, HMT.out, if_neg hw1, if_pos hw2, if_pos h2]
       clear HNX HPT
       have ho := HON.out
       rw [h2] at ho
       obtain ⟨tb, tc, rfl⟩ := owns_succ (k := 0) ho
       clear ho
       have htb : w.heap.size + 1 < tb := Nat.lt_of_lt_of_le (Array.getElem?_eq_some_iff.1 HR5.out.par.1).1 (owns_block HON.out tb rfl)
       have hln : (toldN l).length = 1 := HMT.out.trans h2
       have hv6 : wk.ownsRow w5.heap.size 3 1 (.slice (some ⟨tb, 0, none⟩) (0 + 1) tc) (toldN l).length ((toldN l).map (.int .i64)) := by rw [hln]; exact h2 ▸ HON.out
       obtain ⟨ms, hms⟩ : ∃ ms, toldN l = ms := ⟨_, rfl⟩
       rw [hms] at HPUT hln hv6
       have HRD := Lib.hid (HR6.out.on (Ext.refl wk).drew)
       have HI6 := Lib.hid HRD.out.par
       have HLN := Lib.hid hln
       have HV6 : Hid ((World.drew wk).ownsRow w5.heap.size 3 1 (.slice (some ⟨tb, 0, none⟩) (0 + 1) tc) ms.length (ms.map (.int .i64))) := owns_ext hv6 (Ext.refl wk).drew
       have hbs := (Array.getElem?_eq_some_iff.1 HI6.out.1).1
       have hrl := rread_len HRB.out
       have hi4 : i ≤ 401 := by omega
       have HO6 := Lib.hid HI6.out.2.1
       have g0 := (block_cell HI6.out.1 (i := 0) rfl).1
       have g1 := (block_cell HI6.out.1 (i := 0) rfl).2
       have d0 : wk.cell? ⟨tb, 0, none⟩ = some (.int .i64 (ms.getD 0 0)) := ints_at hv6 (by omega)
       obtain ⟨x, hxx⟩ : ∃ x, ms.getD 0 0 = x := ⟨_, rfl⟩
       rw [hxx] at d0 HPUT
       have HXX := Lib.hid hxx
       have HSZ := Lib.hid (show b.goods.length + 0 + 1 ≤ maxLen ∧ (b.goods.length + 0 + 1) * 8 ≤ 140737488355328 by unfold maxLen; omega)
       clear hv6 hms hln hrl hxx h2
       go_upto_region 24 with fail
       refine wp_region_noPanic ?_
       refine wp_region_any (by kernel_rfl) (wpAny_of_till (z := 9) (S := (fun w' => w'.cell? ⟨w.heap.size + 1, 0, none⟩ = some (.slice va b.goods.length vc) ∧ w'.frozen? ⟨w.heap.size + 1, 0, none⟩ = false ∧ w'.cell? ⟨tb, 0, none⟩ = some (.int .i64 x))) _ _ _ _ ?_)
       change wpTill _ _ _ _ _ _ _ _ _ wk.drew
       have hS0 := (show (World.drew wk).cell? ⟨w.heap.size + 1, 0, none⟩ = some (.slice va b.goods.length vc) ∧ (World.drew wk).frozen? ⟨w.heap.size + 1, 0, none⟩ = false ∧ (World.drew wk).cell? ⟨tb, 0, none⟩ = some (.int .i64 x) from ⟨g0, g1, d0⟩)
       refine till_at (i := 0) (d := some 67) (v := ?_) (by kernel_rfl) (by kernel_rfl) (by kernel_rfl) (by kernel_rfl) (by kernel_rfl) (fun _ _ _ h => h) (fun o ho => ?_) hS0 ?_
       rotate_left
       ·simp only [zA, zB, zD] at ho
        subst ho
        refine Or.inl ⟨by rfl, fun w' hSw => ?_⟩
        obtain ⟨hSw0, hSw1, hSw2⟩ := hSw
        go_simp
        try with_reducible rfl
       try simp only [Act.put, yA, yB, yC]
       refine till_at (i := 1) (d := some 68) (v := ?_) (by kernel_rfl) (by kernel_rfl) (by kernel_rfl) (by kernel_rfl) (by kernel_rfl) (fun _ _ _ h => h) (fun o ho => ?_) hS0 ?_
       rotate_left
       ·simp only [zA, zB, zC, zD] at ho
        subst ho
        refine Or.inl ⟨by rfl, fun w' hSw => ?_⟩
        obtain ⟨hSw0, hSw1, hSw2⟩ := hSw
        go_simp
        try with_reducible rfl
       try simp only [Act.put, yA, yB, yC]
       refine till_at (i := 2) (d := some 69) (v := ?_) (by kernel_rfl) (by kernel_rfl) (by kernel_rfl) (by kernel_rfl) (by kernel_rfl) (fun _ _ _ h => h) (fun o ho => ?_) hS0 ?_
       rotate_left
       ·simp only [zA, zB, zC, zD] at ho
        subst ho
        refine Or.inl ⟨by rfl, fun w' hSw => ?_⟩
        obtain ⟨hSw0, hSw1, hSw2⟩ := hSw
        go_simp
        try with_reducible rfl
       try simp only [Act.put, yA, yB, yC]
       refine till_at (i := 3) (d := some 70) (v := ?_) (by kernel_rfl) (by kernel_rfl) (by kernel_rfl) (by kernel_rfl) (by kernel_rfl) (fun _ _ _ h => h) (fun o ho => ?_) hS0 ?_
       rotate_left
       ·simp only [zA, zB, zC, zD] at ho
        subst ho
        refine Or.inl ⟨by rfl, fun w' hSw => ?_⟩
        obtain ⟨hSw0, hSw1, hSw2⟩ := hSw
        go_simp
        try with_reducible rfl
       try simp only [Act.put, yA, yB, yC]
       refine till_at (i := 4) (d := some 71) (v := ?_) (by kernel_rfl) (by kernel_rfl) (by kernel_rfl) (by kernel_rfl) (by kernel_rfl) (fun _ _ _ h => h) (fun o ho => ?_) hS0 ?_
       rotate_left
       ·simp only [zA, zB, zC, zD] at ho
        subst ho
        refine Or.inl ⟨by rfl, fun w' hSw => ?_⟩
        obtain ⟨hSw0, hSw1, hSw2⟩ := hSw
        go_simp
        try with_reducible rfl
       try simp only [Act.put, yA, yB, yC]
       refine till_at (i := 5) (d := some 72) (v := ?_) (by kernel_rfl) (by kernel_rfl) (by kernel_rfl) (by kernel_rfl) (by kernel_rfl) (fun _ _ _ h => h) (fun o ho => ?_) hS0 ?_
       rotate_left
       ·simp only [zA, zB, zC, zD] at ho
        subst ho
        refine Or.inl ⟨by rfl, fun w' hSw => ?_⟩
        obtain ⟨hSw0, hSw1, hSw2⟩ := hSw
        go_simp
        try with_reducible rfl
       try simp only [Act.put, yA, yB, yC]
       refine till_step (i := 6) (by kernel_rfl) (by kernel_rfl) (fun o ho K' hK => ?_)
       simp only [zA, zB, zC, zD] at ho
       subst ho
       go_simp
       have hS6 := (show ((World.drew wk).alloc (.cells #[.int .i64 x] 124)).cell? ⟨w.heap.size + 1, 0, none⟩ = some (.slice va b.goods.length vc) ∧ ((World.drew wk).alloc (.cells #[.int .i64 x] 124)).frozen? ⟨w.heap.size + 1, 0, none⟩ = false ∧ ((World.drew wk).alloc (.cells #[.int .i64 x] 124)).cell? ⟨tb, 0, none⟩ = some (.int .i64 x) from ⟨((Ext.refl _).alloc _).cell g0, (((Ext.refl _).alloc _).frozen hbs).trans g1, ((Ext.refl _).alloc _).cell (show (World.drew wk).cell? ⟨tb, 0, none⟩ = _ from d0)⟩)
       refine hK.out _ _ (fun _ => hS6) (fun _ => ?_)
       clear hK K'
       try simp only [Act.put, yA, yB, yC]
       refine till_step (i := 7) (by kernel_rfl) (by kernel_rfl) (fun o ho K' hK => ?_)
       simp only [zA, zB, zC, zD] at ho
       subst ho
       refine step_push_n E_goods (by rfl) _ _ (by rfl) (w.heap.size + 1 + 1) (by rfl) HO6.out (q := 0) (by rfl) (by rfl) (by rfl) one_le_maxLen (by simp [Value.oneCell']) ?_ HSZ.out.1 HSZ.out.2 hbs
       intro g9 cap9 w9 hown9 hg9 hloc9
       have HB9 := Lib.hid (kept_push hg9 HI6.out.1 (owns_block HO6.out) (Nat.lt_succ_self _))
       have HR9 := Lib.hid (HRD.out.good hg9 hown9)
       have d9 : w9.cell? ⟨tb, 0, none⟩ = some (.int .i64 x) := by rw [← HXX.out]; exact ints_at (owns_grown hg9 HV6.out (fun q hq e => owns_apart HV6.out HO6.out (by decide) q hq e)) (by rw [HLN.out]; omega)
       clear hown9 hg9 hloc9
       have hS7 := (show w9.cell? ⟨w.heap.size + 1, 0, none⟩ = some (.slice va b.goods.length vc) ∧ w9.frozen? ⟨w.heap.size + 1, 0, none⟩ = false ∧ w9.cell? ⟨tb, 0, none⟩ = some (.int .i64 x) from ⟨(block_cell HB9.out (i := 0) rfl).1, (block_cell HB9.out (i := 0) rfl).2, d9⟩)
       refine hK.out _ _ (fun _ => hS7) (fun _ => ?_)
       clear hK K'
       try simp only [Act.put, yA, yB, yC]
       refine till_at (i := 8) (d := some 75) (v := ?_) (by kernel_rfl) (by kernel_rfl) (by kernel_rfl) (by kernel_rfl) (by kernel_rfl) (fun _ _ _ h => h) (fun o ho => ?_) hS7 ?_
       rotate_left
       ·simp only [zA, zB, zC, zD] at ho
        subst ho
        refine Or.inl ⟨by rfl, fun w' hSw => ?_⟩
        obtain ⟨hSw0, hSw1, hSw2⟩ := hSw
        go_simp
        try with_reducible rfl
       try simp only [Act.put, yA, yB, yC]
       refine till_step (i := 9) (by kernel_rfl) (by kernel_rfl) (fun o ho K' hK => ?_)
       simp only [zA, zB, zC, zD] at ho
       subst ho
       go_simp
       refine hK.out _ _ (fun h => absurd rfl h) (fun _ => ?_)
       clear hK K'
       try simp only [Act.put, yA, yB, yC]
       refine till_done (by kernel_rfl) ?_ _
       refine NoPanic.normal ?_
       try simp only [Act.put, yA, yB, yC]
       clear HRD HI6 HV6 HR5
       go_wp2
       exact ⟨⟨i + 1, _, _, _, by omega, by go_num, HST.out _ HPUT.out, HR9.out⟩, by simp [intOf]; omega⟩
      ·have n1 : ((j : Int) != 1) = true := by simp; omega
       have n2 : ((j : Int) == 1) = false := by simp; omega
       have HNO : Hid (isTextB s = false) := HNX.out (by rw [HPT.out]; unfold putB; rw [HW0.out, HMT.out, if_neg hw1, if_pos hw2, if_neg h2])
       obtain ⟨xa, xc, rfl, _⟩ := RowAt.open (RowAt.of_owns HON.out)
       obtain ⟨⟨a0, a1, a2, a3⟩, f0, f1, f2, f3⟩ := block4 HR6.out.res
       clear HNX HPT
       go_wp2
       obtain ⟨⟨r0, r1, r2, r3⟩, -⟩ := block4 (store4_block HR6.out.res (.slice none 0 0) (.int .i64 0) (.int .i64 0) (.slice none 0 0))
       refine bodyPost_ret (v := .tuple #[zeroBk, .bool false]) (by simp only [store4] at r0 r1 r2 r3; simp [results, Tryz.results45, go_sem, r0, r1, r2, r3]) rfl ?_
       exact ⟨_, _, rfl, store4_ext HR6.out.ext (Nat.le_refl _) _ _ _ _, .inr ⟨HNO.out, rfl, rfl⟩⟩
     have c2 : (w0 == [103, 111, 111, 100]) = false := by rw [beq_eq_false_iff_ne]; exact hw2
     by_cases hw3 : w0 = wEntry
     ·have c3 : (w0 == [101, 110, 116, 114, 121]) = true := by rw [beq_iff_eq]; exact hw3
      by_cases h2 : j = 3
      ·have n1 : ((j : Int) != 3) = false := by rw [h2]; rfl
       have n2 : ((j : Int) == 3) = true := by rw [h2]; rfl
       have HPUT : Hid (rstepB b l = some { b with entries := b.entries ++ [((toldN l).getD 0 0, (toldN l).getD 1 0, (toldN l).getD 2 0)] }) := by unfold Hid; rw [HPT.out]; unfold putB; rw [HW0.out, HMT.out, if_neg hw1, if_neg hw2, if_pos hw3, if_pos h2]
       clear HNX HPT
       have ho := HON.out
       rw [h2] at ho
       obtain ⟨tb, tc, rfl⟩ := owns_succ (k := 2) ho
       clear ho
       have htb : w.heap.size + 1 < tb := Nat.lt_of_lt_of_le (Array.getElem?_eq_some_iff.1 HR5.out.par.1).1 (owns_block HON.out tb rfl)
       have hln : (toldN l).length = 3 := HMT.out.trans h2
       have hv6 : wk.ownsRow w5.heap.size 3 1 (.slice (some ⟨tb, 0, none⟩) (2 + 1) tc) (toldN l).length ((toldN l).map (.int .i64)) := by rw [hln]; exact h2 ▸ HON.out
       obtain ⟨ms, hms⟩ : ∃ ms, toldN l = ms := ⟨_, rfl⟩
       rw [hms] at HPUT hln hv6
       have HRD := Lib.hid (HR6.out.on (Ext.refl wk).drew)
       have HI6 := Lib.hid HRD.out.par
       have HLN := Lib.hid hln
       have HV6 : Hid ((World.drew wk).ownsRow w5.heap.size 3 1 (.slice (some ⟨tb, 0, none⟩) (2 + 1) tc) ms.length (ms.map (.int .i64))) := owns_ext hv6 (Ext.refl wk).drew
       have hbs := (Array.getElem?_eq_some_iff.1 HI6.out.1).1
       have hrl := rread_len HRB.out
       have hi4 : i ≤ 401 := by omega
       have HO6 := Lib.hid HI6.out.2.2
       have g0 := (block_cell HI6.out.1 (i := 3) rfl).1
       have g1 := (block_cell HI6.out.1 (i := 3) rfl).2
       have d0 : wk.cell? ⟨tb, 0, none⟩ = some (.int .i64 (ms.getD 0 0)) := ints_at hv6 (by omega)
       have d1 : wk.cell? ⟨tb, 1, none⟩ = some (.int .i64 (ms.getD 1 0)) := ints_at hv6 (by omega)
       have d2 : wk.cell? ⟨tb, 2, none⟩ = some (.int .i64 (ms.getD 2 0)) := ints_at hv6 (by omega)
       obtain ⟨x, hxx⟩ : ∃ x : Int × Int × Int, x = (ms.getD 0 0, ms.getD 1 0, ms.getD 2 0) := ⟨_, rfl⟩
       have hx0 : ms.getD 0 0 = x.1 := by rw [hxx]
       have hx1 : ms.getD 1 0 = x.2.1 := by rw [hxx]
       have hx2 : ms.getD 2 0 = x.2.2 := by rw [hxx]
       rw [← hxx] at HPUT
       rw [hx0] at d0
       rw [hx1] at d1
       rw [hx2] at d2
       have HXX := Lib.hid (And.intro hx0 (And.intro hx1 hx2))
       have HSZ := Lib.hid (show b.entries.length + 0 + 1 ≤ maxLen ∧ (b.entries.length + 0 + 1) * 24 ≤ 140737488355328 by unfold maxLen; omega)
       clear hv6 hms hln hrl hxx hx0 hx1 hx2 h2
       go_upto_region 28 with fail
       refine wp_region_noPanic ?_
       refine wp_region_any (by kernel_rfl) (wpAny_of_till (z := 15) (S := (fun w' => w'.cell? ⟨w.heap.size + 1, 3, none⟩ = some (.slice ea b.entries.length ec) ∧ w'.frozen? ⟨w.heap.size + 1, 3, none⟩ = false ∧ w'.cell? ⟨tb, 0, none⟩ = some (.int .i64 x.1) ∧ w'.cell? ⟨tb, 1, none⟩ = some (.int .i64 x.2.1) ∧ w'.cell? ⟨tb, 2, none⟩ = some (.int .i64 x.2.2))) _ _ _ _ ?_)
       change wpTill _ _ _ _ _ _ _ _ _ wk.drew
       have hS0 := (show (World.drew wk).cell? ⟨w.heap.size + 1, 3, none⟩ = some (.slice ea b.entries.length ec) ∧ (World.drew wk).frozen? ⟨w.heap.size + 1, 3, none⟩ = false ∧ (World.drew wk).cell? ⟨tb, 0, none⟩ = some (.int .i64 x.1) ∧ (World.drew wk).cell? ⟨tb, 1, none⟩ = some (.int .i64 x.2.1) ∧ (World.drew wk).cell? ⟨tb, 2, none⟩ = some (.int .i64 x.2.2) from ⟨g0, g1, d0, d1, d2⟩)
       refine till_at (i := 0) (d := some 82) (v := ?_) (by kernel_rfl) (by kernel_rfl) (by kernel_rfl) (by kernel_rfl) (by kernel_rfl) (fun _ _ _ h => h) (fun o ho => ?_) hS0 ?_
       rotate_left
       ·simp only [zA, zB, zD] at ho
        subst ho
        refine Or.inl ⟨by rfl, fun w' hSw => ?_⟩
        obtain ⟨hSw0, hSw1, hSw2, hSw3, hSw4⟩ := hSw
        go_simp
        try with_reducible rfl
       try simp only [Act.put, yA, yB, yC]
       refine till_at (i := 1) (d := some 83) (v := ?_) (by kernel_rfl) (by kernel_rfl) (by kernel_rfl) (by kernel_rfl) (by kernel_rfl) (fun _ _ _ h => h) (fun o ho => ?_) hS0 ?_
       rotate_left
       ·simp only [zA, zB, zC, zD] at ho
        subst ho
        refine Or.inl ⟨by rfl, fun w' hSw => ?_⟩
        obtain ⟨hSw0, hSw1, hSw2, hSw3, hSw4⟩ := hSw
        go_simp
        try with_reducible rfl
       try simp only [Act.put, yA, yB, yC]
       refine till_at (i := 2) (d := some 84) (v := ?_) (by kernel_rfl) (by kernel_rfl) (by kernel_rfl) (by kernel_rfl) (by kernel_rfl) (fun _ _ _ h => h) (fun o ho => ?_) hS0 ?_
       rotate_left
       ·simp only [zA, zB, zC, zD] at ho
        subst ho
        refine Or.inl ⟨by rfl, fun w' hSw => ?_⟩
        obtain ⟨hSw0, hSw1, hSw2, hSw3, hSw4⟩ := hSw
        go_simp
        try with_reducible rfl
       try simp only [Act.put, yA, yB, yC]
       refine till_at (i := 3) (d := some 85) (v := ?_) (by kernel_rfl) (by kernel_rfl) (by kernel_rfl) (by kernel_rfl) (by kernel_rfl) (fun _ _ _ h => h) (fun o ho => ?_) hS0 ?_
       rotate_left
       ·simp only [zA, zB, zC, zD] at ho
        subst ho
        refine Or.inl ⟨by rfl, fun w' hSw => ?_⟩
        obtain ⟨hSw0, hSw1, hSw2, hSw3, hSw4⟩ := hSw
        go_simp
        try with_reducible rfl
       try simp only [Act.put, yA, yB, yC]
       refine till_at (i := 4) (d := some 86) (v := ?_) (by kernel_rfl) (by kernel_rfl) (by kernel_rfl) (by kernel_rfl) (by kernel_rfl) (fun _ _ _ h => h) (fun o ho => ?_) hS0 ?_
       rotate_left
       ·simp only [zA, zB, zC, zD] at ho
        subst ho
        refine Or.inl ⟨by rfl, fun w' hSw => ?_⟩
        obtain ⟨hSw0, hSw1, hSw2, hSw3, hSw4⟩ := hSw
        go_simp
        try with_reducible rfl
       try simp only [Act.put, yA, yB, yC]
       refine till_at (i := 5) (d := some 87) (v := ?_) (by kernel_rfl) (by kernel_rfl) (by kernel_rfl) (by kernel_rfl) (by kernel_rfl) (fun _ _ _ h => h) (fun o ho => ?_) hS0 ?_
       rotate_left
       ·simp only [zA, zB, zC, zD] at ho
        subst ho
        refine Or.inl ⟨by rfl, fun w' hSw => ?_⟩
        obtain ⟨hSw0, hSw1, hSw2, hSw3, hSw4⟩ := hSw
        go_simp
        try with_reducible rfl
       try simp only [Act.put, yA, yB, yC]
       refine till_at (i := 6) (d := some 88) (v := ?_) (by kernel_rfl) (by kernel_rfl) (by kernel_rfl) (by kernel_rfl) (by kernel_rfl) (fun _ _ _ h => h) (fun o ho => ?_) hS0 ?_
       rotate_left
       ·simp only [zA, zB, zC, zD] at ho
        subst ho
        refine Or.inl ⟨by rfl, fun w' hSw => ?_⟩
        obtain ⟨hSw0, hSw1, hSw2, hSw3, hSw4⟩ := hSw
        go_simp
        try with_reducible rfl
       try simp only [Act.put, yA, yB, yC]
       refine till_at (i := 7) (d := some 89) (v := ?_) (by kernel_rfl) (by kernel_rfl) (by kernel_rfl) (by kernel_rfl) (by kernel_rfl) (fun _ _ _ h => h) (fun o ho => ?_) hS0 ?_
       rotate_left
       ·simp only [zA, zB, zC, zD] at ho
        subst ho
        refine Or.inl ⟨by rfl, fun w' hSw => ?_⟩
        obtain ⟨hSw0, hSw1, hSw2, hSw3, hSw4⟩ := hSw
        go_simp
        try with_reducible rfl
       try simp only [Act.put, yA, yB, yC]
       refine till_at (i := 8) (d := some 90) (v := ?_) (by kernel_rfl) (by kernel_rfl) (by kernel_rfl) (by kernel_rfl) (by kernel_rfl) (fun _ _ _ h => h) (fun o ho => ?_) hS0 ?_
       rotate_left
       ·simp only [zA, zB, zC, zD] at ho
        subst ho
        refine Or.inl ⟨by rfl, fun w' hSw => ?_⟩
        obtain ⟨hSw0, hSw1, hSw2, hSw3, hSw4⟩ := hSw
        go_simp
        try with_reducible rfl
       try simp only [Act.put, yA, yB, yC]
       refine till_at (i := 9) (d := some 91) (v := ?_) (by kernel_rfl) (by kernel_rfl) (by kernel_rfl) (by kernel_rfl) (by kernel_rfl) (fun _ _ _ h => h) (fun o ho => ?_) hS0 ?_
       rotate_left
       ·simp only [zA, zB, zC, zD] at ho
        subst ho
        refine Or.inl ⟨by rfl, fun w' hSw => ?_⟩
        obtain ⟨hSw0, hSw1, hSw2, hSw3, hSw4⟩ := hSw
        go_simp
        try with_reducible rfl
       try simp only [Act.put, yA, yB, yC]
       refine till_at (i := 10) (d := some 92) (v := ?_) (by kernel_rfl) (by kernel_rfl) (by kernel_rfl) (by kernel_rfl) (by kernel_rfl) (fun _ _ _ h => h) (fun o ho => ?_) hS0 ?_
       rotate_left
       ·simp only [zA, zB, zC, zD] at ho
        subst ho
        refine Or.inl ⟨by rfl, fun w' hSw => ?_⟩
        obtain ⟨hSw0, hSw1, hSw2, hSw3, hSw4⟩ := hSw
        go_simp
        try with_reducible rfl
       try simp only [Act.put, yA, yB, yC]
       refine till_at (i := 11) (d := some 93) (v := ?_) (by kernel_rfl) (by kernel_rfl) (by kernel_rfl) (by kernel_rfl) (by kernel_rfl) (fun _ _ _ h => h) (fun o ho => ?_) hS0 ?_
       rotate_left
       ·simp only [zA, zB, zC, zD] at ho
        subst ho
        refine Or.inl ⟨by rfl, fun w' hSw => ?_⟩
        obtain ⟨hSw0, hSw1, hSw2, hSw3, hSw4⟩ := hSw
        go_simp
        try with_reducible rfl
       try simp only [Act.put, yA, yB, yC]
       refine till_step (i := 12) (by kernel_rfl) (by kernel_rfl) (fun o ho K' hK => ?_)
       simp only [zA, zB, zC, zD] at ho
       subst ho
       go_simp
       have hS12 := (show ((World.drew wk).alloc (.cells #[.int .i64 x.1, .int .i64 x.2.1, .int .i64 x.2.2] 126)).cell? ⟨w.heap.size + 1, 3, none⟩ = some (.slice ea b.entries.length ec) ∧ ((World.drew wk).alloc (.cells #[.int .i64 x.1, .int .i64 x.2.1, .int .i64 x.2.2] 126)).frozen? ⟨w.heap.size + 1, 3, none⟩ = false ∧ ((World.drew wk).alloc (.cells #[.int .i64 x.1, .int .i64 x.2.1, .int .i64 x.2.2] 126)).cell? ⟨tb, 0, none⟩ = some (.int .i64 x.1) ∧ ((World.drew wk).alloc (.cells #[.int .i64 x.1, .int .i64 x.2.1, .int .i64 x.2.2] 126)).cell? ⟨tb, 1, none⟩ = some (.int .i64 x.2.1) ∧ ((World.drew wk).alloc (.cells #[.int .i64 x.1, .int .i64 x.2.1, .int .i64 x.2.2] 126)).cell? ⟨tb, 2, none⟩ = some (.int .i64 x.2.2) from ⟨((Ext.refl _).alloc _).cell g0, (((Ext.refl _).alloc _).frozen hbs).trans g1, ((Ext.refl _).alloc _).cell (show (World.drew wk).cell? ⟨tb, 0, none⟩ = _ from d0), ((Ext.refl _).alloc _).cell (show (World.drew wk).cell? ⟨tb, 1, none⟩ = _ from d1), ((Ext.refl _).alloc _).cell (show (World.drew wk).cell? ⟨tb, 2, none⟩ = _ from d2)⟩)
       refine hK.out _ _ (fun _ => hS12) (fun _ => ?_)
       clear hK K'
       try simp only [Act.put, yA, yB, yC]
       refine till_step (i := 13) (by kernel_rfl) (by kernel_rfl) (fun o ho K' hK => ?_)
       simp only [zA, zB, zC, zD] at ho
       subst ho
       refine step_push_n E_entries (by rfl) _ _ (by rfl) (w.heap.size + 1 + 1) (by rfl) HO6.out (q := 0) (by rfl) (by rfl) (by rfl) one_le_maxLen (by simp [Value.oneCell']) ?_ HSZ.out.1 HSZ.out.2 hbs
       intro g9 cap9 w9 hown9 hg9 hloc9
       have HB9 := Lib.hid (kept_push hg9 HI6.out.1 (owns_block HO6.out) (Nat.lt_succ_self _))
       have HR9 := Lib.hid (HRD.out.entry hg9 hown9)
       have hv9 := owns_grown hg9 HV6.out (fun q hq e => owns_apart HV6.out HO6.out (by decide) q hq e)
       have e0 : w9.cell? ⟨tb, 0, none⟩ = some (.int .i64 x.1) := by rw [← HXX.out.1]; exact ints_at hv9 (by rw [HLN.out]; omega)
       have e1 : w9.cell? ⟨tb, 1, none⟩ = some (.int .i64 x.2.1) := by rw [← HXX.out.2.1]; exact ints_at hv9 (by rw [HLN.out]; omega)
       have e2 : w9.cell? ⟨tb, 2, none⟩ = some (.int .i64 x.2.2) := by rw [← HXX.out.2.2]; exact ints_at hv9 (by rw [HLN.out]; omega)
       clear hown9 hg9 hloc9
       have hS13 := (show w9.cell? ⟨w.heap.size + 1, 3, none⟩ = some (.slice ea b.entries.length ec) ∧ w9.frozen? ⟨w.heap.size + 1, 3, none⟩ = false ∧ w9.cell? ⟨tb, 0, none⟩ = some (.int .i64 x.1) ∧ w9.cell? ⟨tb, 1, none⟩ = some (.int .i64 x.2.1) ∧ w9.cell? ⟨tb, 2, none⟩ = some (.int .i64 x.2.2) from ⟨(block_cell HB9.out (i := 3) rfl).1, (block_cell HB9.out (i := 3) rfl).2, e0, e1, e2⟩)
       refine hK.out _ _ (fun _ => hS13) (fun _ => ?_)
       clear hK K'
       try simp only [Act.put, yA, yB, yC]
       refine till_at (i := 14) (d := some 96) (v := ?_) (by kernel_rfl) (by kernel_rfl) (by kernel_rfl) (by kernel_rfl) (by kernel_rfl) (fun _ _ _ h => h) (fun o ho => ?_) hS13 ?_
       rotate_left
       ·simp only [zA, zB, zC, zD] at ho
        subst ho
        refine Or.inl ⟨by rfl, fun w' hSw => ?_⟩
        obtain ⟨hSw0, hSw1, hSw2, hSw3, hSw4⟩ := hSw
        go_simp
        try with_reducible rfl
       try simp only [Act.put, yA, yB, yC]
       refine till_step (i := 15) (by kernel_rfl) (by kernel_rfl) (fun o ho K' hK => ?_)
       simp only [zA, zB, zC, zD] at ho
       subst ho
       go_simp
       refine hK.out _ _ (fun h => absurd rfl h) (fun _ => ?_)
       clear hK K'
       try simp only [Act.put, yA, yB, yC]
       refine till_done (by kernel_rfl) ?_ _
       refine NoPanic.normal ?_
       try simp only [Act.put, yA, yB, yC]
       clear HRD HI6 HV6 HR5
       go_wp2
       exact ⟨⟨i + 1, _, _, _, by omega, by go_num, HST.out _ HPUT.out, HR9.out⟩, by simp [intOf]; omega⟩
      ·have n1 : ((j : Int) != 3) = true := by simp; omega
       have n2 : ((j : Int) == 3) = false := by simp; omega
       have HNO : Hid (isTextB s = false) := HNX.out (by rw [HPT.out]; unfold putB; rw [HW0.out, HMT.out, if_neg hw1, if_neg hw2, if_pos hw3, if_neg h2])
       obtain ⟨xa, xc, rfl, _⟩ := RowAt.open (RowAt.of_owns HON.out)
       obtain ⟨⟨a0, a1, a2, a3⟩, f0, f1, f2, f3⟩ := block4 HR6.out.res
       clear HNX HPT
       go_wp2
       obtain ⟨⟨r0, r1, r2, r3⟩, -⟩ := block4 (store4_block HR6.out.res (.slice none 0 0) (.int .i64 0) (.int .i64 0) (.slice none 0 0))
       refine bodyPost_ret (v := .tuple #[zeroBk, .bool false]) (by simp only [store4] at r0 r1 r2 r3; simp [results, Tryz.results45, go_sem, r0, r1, r2, r3]) rfl ?_
       exact ⟨_, _, rfl, store4_ext HR6.out.ext (Nat.le_refl _) _ _ _ _, .inr ⟨HNO.out, rfl, rfl⟩⟩
     ·have c3 : (w0 == [101, 110, 116, 114, 121]) = false := by rw [beq_eq_false_iff_ne]; exact hw3
      have HNO : Hid (isTextB s = false) := HNX.out (by rw [HPT.out]; unfold putB; rw [HW0.out, HMT.out, if_neg hw1, if_neg hw2, if_neg hw3])
      obtain ⟨xa, xc, rfl, _⟩ := RowAt.open (RowAt.of_owns HON.out)
      obtain ⟨⟨a0, a1, a2, a3⟩, f0, f1, f2, f3⟩ := block4 HR6.out.res
      clear HNX HPT
      go_wp2
      obtain ⟨⟨r0, r1, r2, r3⟩, -⟩ := block4 (store4_block HR6.out.res (.slice none 0 0) (.int .i64 0) (.int .i64 0) (.slice none 0 0))
      refine bodyPost_ret (v := .tuple #[zeroBk, .bool false]) (by simp only [store4] at r0 r1 r2 r3; simp [results, Tryz.results45, go_sem, r0, r1, r2, r3]) rfl ?_
      exact ⟨_, _, rfl, store4_ext HR6.out.ext (Nat.le_refl _) _ _ _ _, .inr ⟨HNO.out, rfl, rfl⟩⟩
  ·have x1 : decide ((i : Int) < (LS.length : Int) - 2) = false := by simp; omega
   have hie : i = LS.length - 2 := by omega
   have hrs := rread_small HRB.out
   have hrl := rread_len HRB.out
   have HRP := Lib.hid (rprint_any _ b wo HRI.out.par.book ⟨hrs, by omega, by omega⟩)
   have p0 := (block_cell HRI.out.par.1 (i := 0) rfl).1
   have p1 := (block_cell HRI.out.par.1 (i := 1) rfl).1
   have p2 := (block_cell HRI.out.par.1 (i := 2) rfl).1
   have p3 := (block_cell HRI.out.par.1 (i := 3) rfl).1
   by_cases hq : textT b = s
   ·obtain ⟨ht1, ht2⟩ := isText_of (s := s) (b := b) ⟨hrs, hq⟩
    have HT1 := Lib.hid (And.intro ht1 ht2)
    rw [hq] at HRP
    have q1 : (s != s) = false := by simp
    have q2 : decide (s = s) = true := by simp
    clear hq ht1 ht2 hrs hrl hie hlt
    go_upto_region 31 with (go_at_call 43; refine HRP.out.mono ?_; rintro e w8 ⟨rfl, hx8⟩; have HR8 := Lib.hid (HRI.out.on hx8); have p0' := hx8.cell p0; have p1' := hx8.cell p1; have p2' := hx8.cell p2; have p3' := hx8.cell p3; clear hx8)
    obtain ⟨⟨a0, a1, a2, a3⟩, f0, f1, f2, f3⟩ := block4 HR8.out.res
    go_wp2
    obtain ⟨⟨r0, r1, r2, r3⟩, -⟩ := block4 (store4_block HR8.out.res (.slice va b.goods.length vc) (.int .i64 b.editions) (.int .i64 b.moves) (.slice ea b.entries.length ec))
    refine bodyPost_ret (v := .tuple #[.agg #[.slice va b.goods.length vc, .int .i64 b.editions, .int .i64 b.moves, .slice ea b.entries.length ec], .bool true]) (by simp only [store4] at r0 r1 r2 r3; simp [results, Tryz.results45, go_sem, r0, r1, r2, r3]) rfl ?_
    refine ⟨_, _, rfl, store4_ext HR8.out.ext (Nat.le_refl _) _ _ _ _, .inl ⟨HT1.out.1, rfl, ?_⟩⟩
    rw [HT1.out.2]
    have hT := store4_touch w8 w.heap.size (.slice va b.goods.length vc) (.int .i64 b.editions) (.int .i64 b.moves) (.slice ea b.entries.length ec)
    exact ⟨_, _, rfl, RowAt.of_owns (owns_touch HR8.out.par.2.1 hT (fun g hg e => by have := owns_block HR8.out.par.2.1 g hg; omega)), RowAt.of_owns (owns_touch HR8.out.par.2.2 hT (fun g hg e => by have := owns_block HR8.out.par.2.2 g hg; omega))⟩
   ·have HNO : Hid (isTextB s = false) := by
     unfold Hid
     cases ht : isTextB s with
     | false => rfl
     | true =>
      have h1 := HYES.out ht
      rw [← hie, HRB.out] at h1
      cases h1
      exact absurd (isText_iff.1 ht).2 hq
    have q1 : (textT b != s) = true := by simpa using hq
    have q2 : decide (textT b = s) = false := by simpa using hq
    have q3 : (textT b == s) = false := by simpa using hq
    clear hq hrs hrl hie hlt
    generalize textT b = tt at *
    go_upto_region 30 with (go_at_call 43; refine HRP.out.mono ?_; rintro e w8 ⟨rfl, hx8⟩; have HR8 := Lib.hid (HRI.out.on hx8); clear hx8)
    obtain ⟨⟨a0, a1, a2, a3⟩, f0, f1, f2, f3⟩ := block4 HR8.out.res
    go_wp2
    obtain ⟨⟨r0, r1, r2, r3⟩, -⟩ := block4 (store4_block HR8.out.res (.slice none 0 0) (.int .i64 0) (.int .i64 0) (.slice none 0 0))
    refine bodyPost_ret (v := .tuple #[zeroBk, .bool false]) (by simp only [store4] at r0 r1 r2 r3; simp [results, Tryz.results45, go_sem, r0, r1, r2, r3]) rfl ?_
    exact ⟨_, _, rfl, store4_ext HR8.out.ext (Nat.le_refl _) _ _ _ _, .inr ⟨HNO.out, rfl, rfl⟩⟩
end Go.Proofs.YtoohhefegfpipaaGreatDoor
