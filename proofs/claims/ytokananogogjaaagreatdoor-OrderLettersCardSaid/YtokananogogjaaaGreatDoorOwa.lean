/- Wants. -/
import Derived.Test.YtokananogogjaaaGreatDoorOre
import Derived.Test.YtokananogogjaaaGreatDoorOaq
import Derived.Test.YtokananogogjaaaGreatDoorOs
import Derived.Test.YtokananogogjaaaGreatDoorOsa
namespace Go.Proofs.YtokananogogjaaaGreatDoor
open Go.RowKit
theorem E_spans : Elem Tryz.prog 45 51 2 16 (.agg #[.int .i64 0, .int .i64 0]) := by
 obtain ⟨i, h1, h2, h3, h4⟩ := info_parts (P := Tryz.prog) (e := 51) (z := .agg #[.int .i64 0, .int .i64 0]) (size := 2) (bytes := 16) (by kernel_rfl)
 exact ⟨Tryz.underlying45, ⟨i, h1, h2, h3, h4⟩, rfl, by decide⟩
theorem made_spans (n : Nat) : (madeCells (Value.agg #[.int .i64 0, .int .i64 0]).cells (n * 2)).toList = (List.replicate n ((0 : Int), (0 : Int))).flatMap spanC := by
 have h1 : (List.replicate n ((0 : Int), (0 : Int))).flatMap spanC = List.replicate (n * 2) (Value.int .i64 0) := by
  induction n with
  | zero => rfl
  | succ n ih => rw [List.replicate_succ, List.flatMap_cons, ih, Nat.succ_mul]; rfl
 rw [h1]
 refine List.eq_replicate_iff.2 ⟨by simp [size_madeCells], fun x hx => ?_⟩
 obtain ⟨i, hi, rfl⟩ := List.getElem_of_mem hx
 simp [madeCells]
 show (#[Value.int .i64 0, Value.int .i64 0] : Array Value)[i % 2]! = _
 rcases (by omega : i % 2 = 0 ∨ i % 2 = 1) with h | h <;> rw [h] <;> rfl
theorem span_at {l : List (Int × Int)} {k : Nat} {s : Int × Int} (h : l[k]? = some s) : (l.flatMap spanC)[k * 2]? = some (.int .i64 s.1) ∧ (l.flatMap spanC)[k * 2 + 1]? = some (.int .i64 s.2) :=
 ⟨by have := flatMap_at spanC 2 (fun _ => rfl) l k 0 s h (by omega); rw [Nat.add_zero] at this; exact this, flatMap_at spanC 2 (fun _ => rfl) l k 1 s h (by omega)⟩
theorem span_set : ∀ {l : List (Int × Int)} {k : Nat} (s : Int × Int), k < l.length → ((l.flatMap spanC).set (k * 2) (.int .i64 s.1)).set (k * 2 + 1) (.int .i64 s.2) = (l.set k s).flatMap spanC
 | [], k, s, h => by simp at h
 | x :: l, 0, s, _ => by simp [spanC]
 | x :: l, k + 1, s, h => by
  have ih := span_set (l := l) (k := k) s (by simpa using h)
  rw [List.flatMap_cons, List.set_cons_succ, List.flatMap_cons, ← ih, show (k + 1) * 2 = k * 2 + 1 + 1 by omega]
  simp [spanC]
def wantsB (b : Book) (x : Buyer) : List (Int × Int) := spansL b.goods.length ((lettersB b x).map fun r => wantsTo b.goods.length x.letters r.2 x.letters.length)
def WantsRes (b : Book) (x : Buyer) (w : World) (e : Ending) (w' : World) : Prop :=
 Ext w w' ∧ ((letErr b x ≠ 0 ∧ e = .returned (.tuple #[.slice none 0 0, .int .i64 (letErr b x)])) ∨ (letErr b x = 0 ∧ ∃ u, e = .returned (.tuple #[u, .int .i64 0]) ∧ SpansAt w' u (wantsB b x)))
theorem span_next {rs : List (List Int)} {r : List Int} {k : Nat} (lo hi v : Int) (hs : spanOf (rs.map fun r => r.getD k 0) = (lo, hi)) (hv : r.getD k 0 = v) : spanOf ((rs ++ [r]).map fun r => r.getD k 0) = if rs = [] then (v, v) else (if v < lo then v else lo, if v > hi then v else hi) := by
 rw [List.map_append]
 by_cases h : rs = []
 ·subst h; rw [if_pos rfl]; simp only [List.map_nil, List.nil_append, List.map_cons, hv]; rfl
 ·rw [if_neg h, List.map_cons, List.map_nil, hv, spanOf_push (by simpa using h), hs]
  refine Prod.ext ?_ ?_
  ·show min lo v = if v < lo then v else lo
   split <;> omega
  ·show max hi v = if v > hi then v else hi
   split <;> omega
set_option maxRecDepth 100000 in
set_option maxHeartbeats 16000000 in
theorem Wants_any (v xv : Value) (b : Book) (x : Buyer) (w : World) (hB : BookB b) (hb : BookAt w v b) (hx : BuyerAt w xv x) :
 Calls Tryz.prog 16 #[v, xv] w (WantsRes b x w) := by
 have HLE := Lib.hid (fun W1 (h : Ext w W1) => letters_any v xv b x W1 hB (hb.ext h) (hx.ext h))
 obtain ⟨ga, gc, ea, ec, rfl, hgl, hel⟩ := hb.open
 obtain ⟨la, lc, rfl, hl1, hl2, hlr⟩ := hx.open
 obtain ⟨W, hW⟩ : ∃ W, W = (w.alloc (bookBox (.slice ga b.goods.length gc) b (.slice ea b.entries.length ec))).alloc (.cells #[.int .i64 x.editions, .slice la x.letters.length lc] 28) := ⟨_, rfl⟩
 have hx0 : Ext w W := by rw [hW]; exact ((Ext.refl w).alloc _).alloc _
 have HX0 := Lib.hid hx0
 have c0 : W.cell? ⟨w.heap.size, 0, none⟩ = some (.slice ga b.goods.length gc) := by rw [hW]; go_simp
 have c1 : W.cell? ⟨w.heap.size, 1, none⟩ = some (.int .i64 b.editions) := by rw [hW]; go_simp
 have c2 : W.cell? ⟨w.heap.size, 2, none⟩ = some (.int .i64 b.moves) := by rw [hW]; go_simp
 have c3 : W.cell? ⟨w.heap.size, 3, none⟩ = some (.slice ea b.entries.length ec) := by rw [hW]; go_simp
 have c4 : W.cell? ⟨w.heap.size + 1, 0, none⟩ = some (.int .i64 x.editions) := by rw [hW]; go_simp
 have c5 : W.cell? ⟨w.heap.size + 1, 1, none⟩ = some (.slice la x.letters.length lc) := by rw [hW]; go_simp
 have HLL := Lib.hid (letters_len hB x)
 obtain ⟨_, _, hve, _, _, q3⟩ := RowOf.open4 (f := letC) (fun _ => rfl) hlr
 cases hve
 have HQ3 := Lib.hid q3
 have HC5 := Lib.hid (fun W1 (h : Ext W W1) => (⟨h.cell c0, h.cell c5⟩ : _ ∧ _))
 have g2 := hB.g2
 have g5 := hB.g5
 clear hb hx hx0 hgl hel hl1 hl2 hlr hB q3
 rcases letErr_or b x with ⟨hz, hne⟩ | hz
 ·have hbu := letErr_buyer hz
  have HGL := Lib.hid (fun y hy => good_letter hbu (y := y) hy)
  have hbl := buyer_len hbu
  have hR : ∀ w' u, Ext w w' → SpansAt w' u (wantsB b x) → WantsRes b x w (.returned (.tuple #[u, .int .i64 0])) w' := fun w' u h hu => ⟨h, .inr ⟨hz, u, rfl, hu⟩⟩
  have HR := Lib.hid hR
  have HL2 := Lib.hid (fun W1 (h : Ext w W1) => (HLE.out W1 h).mono (fun e w' (he : LetRes b x W1 e w') => (he.2.elim (fun q => absurd hz q.1) (fun q => (let ⟨_, u, h1, rows, h2, h3, h4⟩ := q; ⟨u, rows, h1, he.1, h2, h3, h4⟩)) : ∃ (u : Value) (rows : List Rd), e = .returned (.tuple #[u, .int .i64 0]) ∧ Ext W1 w' ∧ rows.map (fun r => (r.e, r.l)) = lettersB b x ∧ RowOf rdC w' u rows ∧ ∀ r, r ∈ rows → IntsAt w' r.v r.l)))
  clear hR HLE hz hne hbu
  go_enter Tryz.func16, Tryz.ntmps16
  go_upto_region 1 with fail
  unfold bookBox at hW
  rw [← hW]
  clear hW
  go_upto_region 4 with (go_at_call 43; refine (HL2.out _ HX0.out).mono ?_; rintro r w2 ⟨u, rows, rfl, hx2, hrs, hrow, hms⟩; obtain ⟨ua, uc, rfl, l1, l2, l3⟩ := RowOf.open2 (f := rdC) (fun _ => rfl) hrow; clear hrow c0 c1 c2 c3 c4 c5)
  have HL3 := Lib.hid l3
  have HMS := Lib.hid hms
  have HX2 := Lib.hid (HX0.out.trans hx2)
  have hll := congrArg List.length hrs
  rw [List.length_map] at hll
  have hlen : rows.length ≤ 10000 := by have := HLL.out; omega
  have HSP : Hid (spansL b.goods.length (rows.map fun r => wantsTo b.goods.length x.letters r.l x.letters.length) = wantsB b x) := by unfold Hid wantsB; rw [← hrs, List.map_map]; rfl
  have HPM : Hid (∀ p, p ∈ rows → p.l ∈ permsB b) := fun p hp => letters_perm (b := b) (x := x) (r := (p.e, p.l)) (by rw [← hrs]; exact List.mem_map_of_mem hp)
  obtain ⟨c0, c5⟩ := HC5.out _ hx2
  have HCC := Lib.hid (fun W1 (h : Ext w2 W1) => (⟨h.cell c0, h.cell c5⟩ : _ ∧ _))
  clear l3 hms hx2 hrs hll HC5
  obtain ⟨ii, hi1, hi2, hi3, hi4⟩ := E_spans.info
  obtain ⟨w6, hrun, hown6, hgr⟩ := run_makeSlice_full (P := Tryz.prog) (w := w2) w2.heap.size 45 51 ii (.agg #[.int .i64 0, .int .i64 0]) 2 Tryz.underlying45 hi1 hi2 hi3 .i64 .i64 b.goods.length (by omega) (by rw [hi4]; omega) (by unfold maxLen; omega) (Nat.le_refl _)
  rw [made_spans, ← spansL_nil] at hown6
  have hx26 : Ext w2 w6 := Ext.grown (Ext.refl w2) hgr (fun k h => by cases h)
  obtain ⟨c0', c5'⟩ := HCC.out _ hx26
  have HX26 := Lib.hid hx26
  have HOWN6 := Lib.hid hown6
  clear hown6 hgr hx26 hi1 hi2 hi3 hi4
  generalize hm : w2.heap.size = m8 at hrun HOWN6
  have HM8 := Lib.hid hm
  clear hm
  go_wp2
  clear c0 c5 c0' c5' hrun
  go_loopw [31] (fun j wr => ∃ i : Nat, i ≤ rows.length ∧ j = .int .i64 (i : Int) ∧ wr.ownsRow m8 51 2 (.slice (some ⟨m8, 0, none⟩) b.goods.length b.goods.length) b.goods.length ((spansL b.goods.length ((rows.take i).map fun r => wantsTo b.goods.length x.letters r.l x.letters.length)).flatMap spanC) ∧ Touch (fun q => q = m8) w6 wr) (fun j _ => rows.length - (intOf j).toNat)
  case atStart => exact ⟨0, Nat.zero_le _, rfl, by rw [List.take_zero, List.map_nil]; exact HOWN6.out, Touch.refl _ _⟩
  case round =>
   obtain ⟨i, hi, rfl, hown, ht⟩ := hrel
   have hx2r : Ext w2 wr := Touch.ext HX26.out ht (fun q hq => by have := HM8.out; omega)
   by_cases hlt : i < rows.length
   ·obtain ⟨bb, bo, p, rfl, hpk, d0, d1⟩ := HL3.out i hlt
    have hpm := List.mem_of_getElem? hpk.out
    have hpp := perms_mem.1 (HPM.out p hpm)
    obtain ⟨ma, mc, hmv, _, _, m3⟩ := ((HMS.out p hpm).ext hx2r).open
    rw [hpp.1] at hmv
    rw [hmv] at d1
    have g0 := hx2r.cell d0
    have g1 := hx2r.cell d1
    obtain ⟨WP, hWP⟩ : ∃ WP, WP = wr.alloc (.cells #[.int .i64 p.e, .slice ma b.goods.length mc] 91) := ⟨_, rfl⟩
    have hxp : Ext wr WP := by rw [hWP]; exact (Ext.refl wr).alloc _
    have p1 : WP.cell? ⟨wr.heap.size, 1, none⟩ = some (.slice ma b.goods.length mc) := by rw [hWP]; go_simp
    have hzp : WP.heap.size = wr.heap.size + 1 := by rw [hWP]; simp
    have i1 : (0 : Int) ≤ (i : Int) := by omega
    have i2 : (i : Int) < (rows.length : Int) := by omega
    obtain ⟨jj, hj1, hj2, hj3, hj4⟩ := E_ints.info
    obtain ⟨w7, hrun7, hown7, hgr7⟩ := run_makeSlice_full (P := Tryz.prog) (w := WP) WP.heap.size 42 3 jj (.int .i64 0) 1 Tryz.underlying42 hj1 hj2 hj3 .i64 .i64 b.goods.length (by omega) (by rw [hj4]; omega) (by unfold maxLen; omega) (Nat.le_refl _)
    rw [madeCells_int, List.toList_toArray, ← wantsTo_zero b.goods.length x.letters p.l] at hown7
    have hx7 : Ext WP w7 := Ext.grown (Ext.refl WP) hgr7 (fun k h => by cases h)
    have HX7 := Lib.hid (hxp.trans hx7)
    have HP1 := Lib.hid (fun W1 (h : Ext w7 W1) => h.cell (hx7.cell p1))
    obtain ⟨c0, c5⟩ := HCC.out _ (hx2r.trans hxp)
    obtain ⟨c0', c5'⟩ := HCC.out _ ((hx2r.trans hxp).trans hx7)
    have HOWN7 := Lib.hid hown7
    have HOWN := Lib.hid hown
    have HT := Lib.hid ht
    have HM3 := Lib.hid m3
    have HPP := Lib.hid hpp
    have HPK := Lib.hid hpk.out
    have hm8 : m8 < wr.heap.size := (World.ownsRow.lt hown m8 rfl).2
    clear hown7 hgr7 hj1 hj2 hj3 hj4 hown ht m3 hpm hpp hmv d0 d1 hx7 hxp hpk
    go_upto_region 8 with fail
    rw [← hWP]
    clear hWP g0 g1 p1
    generalize hm : WP.heap.size = m at hrun7 HOWN7 hzp
    have HM := Lib.hid hzp
    clear hzp
    have HX2R := Lib.hid hx2r
    clear hm hx2r
    go_wp2
    clear c0 c5 c0' c5' hrun7
    obtain ⟨wq, rfl⟩ : ∃ wq : World, wq = wr := ⟨_, rfl⟩
    go_loopw [43] (fun j wz => ∃ k : Nat, k ≤ x.letters.length ∧ j = .int .i64 (k : Int) ∧ wz.ownsRow m 3 1 (.slice (some ⟨m, 0, none⟩) b.goods.length b.goods.length) b.goods.length ((wantsTo b.goods.length x.letters p.l k).map (.int .i64)) ∧ Touch (fun i => i = m) w7 wz) (fun j _ => x.letters.length - (intOf j).toNat)
    case atStart => exact ⟨0, Nat.zero_le _, rfl, HOWN7.out, Touch.refl _ _⟩
    case round =>
     obtain ⟨k, hk, rfl, hown, ht⟩ := hrel
     have hxz : Ext wq wr := Touch.ext HX7.out ht (fun i hi => by have := HM.out; omega)
     have hxw : Ext w wr := HX2.out.trans (HX2R.out.trans hxz)
     by_cases hlt2 : k < x.letters.length
     ·obtain ⟨lb, lo, y, rfl, hyk, d0, d1, d2, d3⟩ := HQ3.out k hlt2
      have hgl := HGL.out y (List.mem_of_getElem? hyk.out)
      obtain ⟨N, hN⟩ : ∃ N : Nat, y.1 = N := ⟨y.1.toNat, by omega⟩
      have hNG : N < b.goods.length := by omega
      have hLpp := HPP.out.1
      obtain ⟨mb, mo, mx, rfl, hmx, m4⟩ := HM3.out N (by omega)
      have hgx : p.l.getD N 0 = mx := by rw [List.getD_eq_getElem?_getD, hmx.out]; rfl
      have hx0g := HPP.out.2.2 mx (List.mem_of_getElem? hmx.out)
      obtain ⟨g, rfl⟩ : ∃ g : Nat, mx = g := ⟨mx.toNat, by omega⟩
      have hgG : g < b.goods.length := by omega
      have hgx2 : p.l.getD y.1.toNat 0 = (g : Int) := by rw [hN, Int.toNat_natCast]; exact hgx
      have HLS := Lib.hid (wantsTo_succ (n := b.goods.length) hyk.out hgx2)
      have hat := wantsTo_at (n := b.goods.length) (ys := x.letters) (l := p.l) (k := k) hgG
      have hbd := wantTo_bd (ys := x.letters) (fun y hy => by have := HGL.out y hy; omega) p.l g k
      have l0 : wr.cell? ⟨m, g, none⟩ = some (.int .i64 (wantTo x.letters p.l k g)) := by rw [hown.cellAt g (by omega), List.getElem?_map, hat]; rfl
      have lf := hown.frozenAt g
      generalize wantTo x.letters p.l k g = old at hbd l0 HLS
      obtain ⟨mn, hmn⟩ : ∃ mn, y.2.2.2 = mn := ⟨_, rfl⟩
      rw [hmn] at hgl HLS d3
      rw [hN] at d0
      have HW2 := Lib.hid (IntWalk.wrap64_in (old + mn) (by omega))
      have k0 := hxw.cell d0
      have k1 := hxw.cell d1
      have k2 := hxw.cell d2
      have k3 := hxw.cell d3
      have q1 : wr.cell? ⟨wq.heap.size, 1, none⟩ = some (.slice (some ⟨mb, mo, none⟩) b.goods.length mc) := by
       refine ht.cell (HP1.out _ (Ext.refl _)) (fun h => ?_)
       have := HM.out
       simp only at h
       omega
      have m5 := hxz.cell m4
      have i1' : (0 : Int) ≤ (k : Int) := by omega
      have i2' : (k : Int) < (x.letters.length : Int) := by omega
      have n1 : (0 : Int) ≤ (N : Int) := by omega
      have n2 : (N : Int) < (b.goods.length : Int) := by omega
      have s1 : (0 : Int) ≤ (g : Int) := by omega
      have s2 : (g : Int) < (b.goods.length : Int) := by omega
      obtain ⟨WQ, hWQ⟩ : ∃ WQ, WQ = wr.alloc (.cells #[.int .i64 (N : Int), .int .i64 y.2.1, .int .i64 y.2.2.1, .int .i64 mn] 53) := ⟨_, rfl⟩
      have hxq : Ext wr WQ := by rw [hWQ]; exact (Ext.refl wr).alloc _
      have j0 := hxq.cell l0
      have j1 := (hxq.frozen (lt_of_cell l0)).trans lf
      have j2 : WQ.cell? ⟨wr.heap.size, 0, none⟩ = some (.int .i64 (N : Int)) := by rw [hWQ]; go_simp
      have j3 : WQ.cell? ⟨wr.heap.size, 3, none⟩ = some (.int .i64 mn) := by rw [hWQ]; go_simp
      have j4 := hxq.cell q1
      have j5 := hxq.cell m5
      have HXQ := Lib.hid hxq
      have HOWNK := Lib.hid hown
      have HT2 := Lib.hid ht
      clear hown ht hxz hxw hyk hgl hmx hgx hgx2 hx0g hat hbd l0 lf m4 m5 q1 hxq hLpp d0 d1 d2 d3 hN hmn
      go_upto_region 12 with fail
      rw [← hWQ]
      clear hWQ k0 k1 k2 k3
      refine wp_region_noPanic ?_
      refine wp_region_any (by kernel_rfl) (wpAny_of_till (z := 13) (S := (fun w' => w'.cell? ⟨m, g, none⟩ = some (.int .i64 old) ∧ w'.frozen? ⟨m, g, none⟩ = false ∧ w'.cell? ⟨wr.heap.size, 0, none⟩ = some (.int .i64 (N : Int)) ∧ w'.cell? ⟨wr.heap.size, 3, none⟩ = some (.int .i64 mn) ∧ w'.cell? ⟨wq.heap.size, 1, none⟩ = some (.slice (some ⟨mb, mo, none⟩) b.goods.length mc) ∧ w'.cell? ⟨mb, mo + N, none⟩ = some (.int .i64 (g : Int)))) _ _ _ _ ?_)
      change wpTill _ _ _ _ _ _ _ _ _ WQ.drew
      have hS0 := (show (World.drew WQ).cell? ⟨m, g, none⟩ = some (.int .i64 old) ∧ (World.drew WQ).frozen? ⟨m, g, none⟩ = false ∧ (World.drew WQ).cell? ⟨wr.heap.size, 0, none⟩ = some (.int .i64 (N : Int)) ∧ (World.drew WQ).cell? ⟨wr.heap.size, 3, none⟩ = some (.int .i64 mn) ∧ (World.drew WQ).cell? ⟨wq.heap.size, 1, none⟩ = some (.slice (some ⟨mb, mo, none⟩) b.goods.length mc) ∧ (World.drew WQ).cell? ⟨mb, mo + N, none⟩ = some (.int .i64 (g : Int)) from ⟨j0, j1, j2, j3, j4, j5⟩)
      refine till_at (i := 0) (d := some 47) (v := ?_) (by kernel_rfl) (by kernel_rfl) (by kernel_rfl) (by kernel_rfl) (by kernel_rfl) (fun _ _ _ h => h) (fun o ho => ?_) hS0 ?_
      rotate_left
      ·simp only [zA, zB, zD] at ho
       subst ho
       refine Or.inl ⟨by rfl, fun w' hSw => ?_⟩
       obtain ⟨hSw0, hSw1, hSw2, hSw3, hSw4, hSw5⟩ := hSw
       go_simp
       try with_reducible rfl
      try simp only [Act.put, yA, yB, yC]
      refine till_at (i := 1) (d := some 48) (v := ?_) (by kernel_rfl) (by kernel_rfl) (by kernel_rfl) (by kernel_rfl) (by kernel_rfl) (fun _ _ _ h => h) (fun o ho => ?_) hS0 ?_
      rotate_left
      ·simp only [zA, zB, zC, zD] at ho
       subst ho
       refine Or.inl ⟨by rfl, fun w' hSw => ?_⟩
       obtain ⟨hSw0, hSw1, hSw2, hSw3, hSw4, hSw5⟩ := hSw
       go_simp
       try with_reducible rfl
      try simp only [Act.put, yA, yB, yC]
      refine till_at (i := 2) (d := some 49) (v := ?_) (by kernel_rfl) (by kernel_rfl) (by kernel_rfl) (by kernel_rfl) (by kernel_rfl) (fun _ _ _ h => h) (fun o ho => ?_) hS0 ?_
      rotate_left
      ·simp only [zA, zB, zC, zD] at ho
       subst ho
       refine Or.inl ⟨by rfl, fun w' hSw => ?_⟩
       obtain ⟨hSw0, hSw1, hSw2, hSw3, hSw4, hSw5⟩ := hSw
       go_simp
       try with_reducible rfl
      try simp only [Act.put, yA, yB, yC]
      refine till_at (i := 3) (d := some 50) (v := ?_) (by kernel_rfl) (by kernel_rfl) (by kernel_rfl) (by kernel_rfl) (by kernel_rfl) (fun _ _ _ h => h) (fun o ho => ?_) hS0 ?_
      rotate_left
      ·simp only [zA, zB, zC, zD] at ho
       subst ho
       refine Or.inl ⟨by rfl, fun w' hSw => ?_⟩
       obtain ⟨hSw0, hSw1, hSw2, hSw3, hSw4, hSw5⟩ := hSw
       go_simp
       try with_reducible rfl
      try simp only [Act.put, yA, yB, yC]
      refine till_at (i := 4) (d := some 51) (v := ?_) (by kernel_rfl) (by kernel_rfl) (by kernel_rfl) (by kernel_rfl) (by kernel_rfl) (fun _ _ _ h => h) (fun o ho => ?_) hS0 ?_
      rotate_left
      ·simp only [zA, zB, zC, zD] at ho
       subst ho
       refine Or.inl ⟨by rfl, fun w' hSw => ?_⟩
       obtain ⟨hSw0, hSw1, hSw2, hSw3, hSw4, hSw5⟩ := hSw
       go_simp
       try with_reducible rfl
      try simp only [Act.put, yA, yB, yC]
      refine till_at (i := 5) (d := some 52) (v := ?_) (by kernel_rfl) (by kernel_rfl) (by kernel_rfl) (by kernel_rfl) (by kernel_rfl) (fun _ _ _ h => h) (fun o ho => ?_) hS0 ?_
      rotate_left
      ·simp only [zA, zB, zC, zD] at ho
       subst ho
       refine Or.inl ⟨by rfl, fun w' hSw => ?_⟩
       obtain ⟨hSw0, hSw1, hSw2, hSw3, hSw4, hSw5⟩ := hSw
       go_simp
       try with_reducible rfl
      try simp only [Act.put, yA, yB, yC]
      refine till_at (i := 6) (d := some 53) (v := ?_) (by kernel_rfl) (by kernel_rfl) (by kernel_rfl) (by kernel_rfl) (by kernel_rfl) (fun _ _ _ h => h) (fun o ho => ?_) hS0 ?_
      rotate_left
      ·simp only [zA, zB, zC, zD] at ho
       subst ho
       refine Or.inl ⟨by rfl, fun w' hSw => ?_⟩
       obtain ⟨hSw0, hSw1, hSw2, hSw3, hSw4, hSw5⟩ := hSw
       go_simp
       try with_reducible rfl
      try simp only [Act.put, yA, yB, yC]
      refine till_at (i := 7) (d := some 54) (v := ?_) (by kernel_rfl) (by kernel_rfl) (by kernel_rfl) (by kernel_rfl) (by kernel_rfl) (fun _ _ _ h => h) (fun o ho => ?_) hS0 ?_
      rotate_left
      ·simp only [zA, zB, zC, zD] at ho
       subst ho
       refine Or.inl ⟨by rfl, fun w' hSw => ?_⟩
       obtain ⟨hSw0, hSw1, hSw2, hSw3, hSw4, hSw5⟩ := hSw
       go_simp
       try with_reducible rfl
      try simp only [Act.put, yA, yB, yC]
      refine till_at (i := 8) (d := some 55) (v := ?_) (by kernel_rfl) (by kernel_rfl) (by kernel_rfl) (by kernel_rfl) (by kernel_rfl) (fun _ _ _ h => h) (fun o ho => ?_) hS0 ?_
      rotate_left
      ·simp only [zA, zB, zC, zD] at ho
       subst ho
       refine Or.inl ⟨by rfl, fun w' hSw => ?_⟩
       obtain ⟨hSw0, hSw1, hSw2, hSw3, hSw4, hSw5⟩ := hSw
       go_simp
       try with_reducible rfl
      try simp only [Act.put, yA, yB, yC]
      refine till_at (i := 9) (d := some 56) (v := ?_) (by kernel_rfl) (by kernel_rfl) (by kernel_rfl) (by kernel_rfl) (by kernel_rfl) (fun _ _ _ h => h) (fun o ho => ?_) hS0 ?_
      rotate_left
      ·simp only [zA, zB, zC, zD] at ho
       subst ho
       refine Or.inl ⟨by rfl, fun w' hSw => ?_⟩
       obtain ⟨hSw0, hSw1, hSw2, hSw3, hSw4, hSw5⟩ := hSw
       go_simp
       try with_reducible rfl
      try simp only [Act.put, yA, yB, yC]
      refine till_at (i := 10) (d := some 57) (v := ?_) (by kernel_rfl) (by kernel_rfl) (by kernel_rfl) (by kernel_rfl) (by kernel_rfl) (fun _ _ _ h => h) (fun o ho => ?_) hS0 ?_
      rotate_left
      ·simp only [zA, zB, zC, zD] at ho
       subst ho
       refine Or.inl ⟨by rfl, fun w' hSw => ?_⟩
       obtain ⟨hSw0, hSw1, hSw2, hSw3, hSw4, hSw5⟩ := hSw
       go_simp
       try with_reducible rfl
      try simp only [Act.put, yA, yB, yC]
      refine till_at (i := 11) (d := some 58) (v := ?_) (by kernel_rfl) (by kernel_rfl) (by kernel_rfl) (by kernel_rfl) (by kernel_rfl) (fun _ _ _ h => h) (fun o ho => ?_) hS0 ?_
      rotate_left
      ·simp only [zA, zB, zC, zD] at ho
       subst ho
       refine Or.inl ⟨by rfl, fun w' hSw => ?_⟩
       obtain ⟨hSw0, hSw1, hSw2, hSw3, hSw4, hSw5⟩ := hSw
       go_simp
       try with_reducible rfl
      try simp only [Act.put, yA, yB, yC]
      refine till_at (i := 12) (d := some 59) (v := ?_) (by kernel_rfl) (by kernel_rfl) (by kernel_rfl) (by kernel_rfl) (by kernel_rfl) (fun _ _ _ h => h) (fun o ho => ?_) hS0 ?_
      rotate_left
      ·simp only [zA, zB, zC, zD] at ho
       subst ho
       refine Or.inl ⟨by rfl, fun w' hSw => ?_⟩
       obtain ⟨hSw0, hSw1, hSw2, hSw3, hSw4, hSw5⟩ := hSw
       go_simp
       try with_reducible rfl
      try simp only [Act.put, yA, yB, yC]
      refine till_step (i := 13) (by kernel_rfl) (by kernel_rfl) (fun o ho K' hK => ?_)
      simp only [zA, zB, zC, zD] at ho
      subst ho
      go_simp
      refine hK.out _ _ (fun h => absurd rfl h) (fun _ => ?_)
      clear hK K'
      try simp only [Act.put, yA, yB, yC]
      refine till_done (by kernel_rfl) ?_ _
      refine NoPanic.normal ?_
      try simp only [Act.put, yA, yB, yC]
      go_wp2
      go_roundw
      case rel =>
       have hst := ((owns_ext HOWNK.out (HXQ.out.trans (Ext.refl _).drew)).stored g (.int .i64 (old + mn))).1
       refine ⟨k + 1, by omega, by go_num, ?_, ?_⟩
       ·rw [HLS.out, List.map_set, HW2.out]; exact hst
       ·exact (HT2.out.trans (Touch.of_ext (HXQ.out.trans (Ext.refl _).drew))).trans (Touch.setCell _ rfl)
      case measure => simp [intOf]; omega
     ·have hke : k = x.letters.length := by omega
      rw [hke] at hown
      obtain ⟨nl, hnl⟩ : ∃ nl, wantsTo b.goods.length x.letters p.l x.letters.length = nl := ⟨_, rfl⟩
      have hnll : nl.length = b.goods.length := by rw [← hnl, wantsTo_len]
      rw [hnl] at hown
      obtain ⟨RS, hRS⟩ : ∃ RS, (rows.take i).map (fun r => wantsTo b.goods.length x.letters r.l x.letters.length) = RS := ⟨_, rfl⟩
      have hRS2 : (rows.take (i + 1)).map (fun r => wantsTo b.goods.length x.letters r.l x.letters.length) = RS ++ [nl] := by
       rw [List.take_add_one, HPK.out, Option.toList_some, List.map_append, hRS, List.map_cons, List.map_nil, hnl]
      have hRSl : RS.length = i := by rw [← hRS, List.length_map, List.length_take]; omega
      have h8 := HOWN.out
      rw [hRS, ← spansTo_zero b.goods.length RS nl] at h8
      have h9 := owns_touch (owns_ext h8 HX7.out) ht (fun q hq hqm => by have h1 := (World.ownsRow.lt h8 q hq).2; have := HM.out; omega)
      have HOWN8 := Lib.hid h9
      have HNOW := Lib.hid hown
      have HXZ := Lib.hid hxz
      have HT7 := Lib.hid ht
      have HRS2 := Lib.hid hRS2
      have HRSL := Lib.hid hRSl
      have HNLL := Lib.hid hnll
      clear hown ht hxz hxw hke hRS hRS2 hRSl h8 h9 hnl hnll
      have t00 : ∀ A B : Prop, A → B → A := fun _ _ a _ => a
      go_wp2
      obtain ⟨w8, rfl⟩ : ∃ w8 : World, w8 = wr := ⟨_, rfl⟩
      go_loopw [63] (fun j wz => ∃ k : Nat, k ≤ b.goods.length ∧ j = .int .i64 (k : Int) ∧ wz.ownsRow m8 51 2 (.slice (some ⟨m8, 0, none⟩) b.goods.length b.goods.length) b.goods.length ((spansTo b.goods.length RS nl k).flatMap spanC) ∧ Touch (fun i => i = m8) w8 wz) (fun j _ => b.goods.length - (intOf j).toNat)
      case atStart => exact ⟨0, Nat.zero_le _, rfl, HOWN8.out, Touch.refl _ _⟩
      case round =>
       obtain ⟨k, hk, rfl, hown, ht⟩ := hrel
       by_cases hlt3 : k < b.goods.length
       ·have hnow := owns_touch HNOW.out ht (fun q hq hqm => by have hq' : m = q := Option.some.inj hq; have := HM.out; omega)
        obtain ⟨vv, hvv⟩ : ∃ vv, nl[k]? = some vv := ⟨_, List.getElem?_eq_getElem (by have := HNLL.out; omega)⟩
        have hvD : nl.getD k 0 = vv := by rw [List.getD_eq_getElem?_getD, hvv]; rfl
        have v0 : wr.cell? ⟨m, k, none⟩ = some (.int .i64 vv) := by rw [hnow.cellAt k (by omega), List.getElem?_map, hvv]; rfl
        have hat := spansTo_at (rs := RS) (r := nl) hlt3
        obtain ⟨lo, hi0, hsp⟩ : ∃ lo hi0, spanOf (RS.map fun r => r.getD k 0) = (lo, hi0) := ⟨_, _, rfl⟩
        rw [hsp] at hat
        have hsn := span_next lo hi0 vv hsp hvD
        have hss := spansTo_succ (rs := RS) (r := nl) hlt3
        rw [hsn] at hss
        have y0 : wr.cell? ⟨m8, k * 2, none⟩ = some (.int .i64 lo) := by rw [hown.cellAt (k * 2) (by omega), (span_at hat).1]
        have y1 : wr.cell? ⟨m8, k * 2 + 1, none⟩ = some (.int .i64 hi0) := by rw [hown.cellAt (k * 2 + 1) (by omega), (span_at hat).2]
        have yf0 := hown.frozenAt (k * 2)
        have yf1 := hown.frozenAt (k * 2 + 1)
        have hsl := spansTo_len RS nl (show k ≤ b.goods.length by omega)
        have i1' : (0 : Int) ≤ (k : Int) := by omega
        have i2' : (k : Int) < (b.goods.length : Int) := by omega
        have HSS := Lib.hid hss
        have HSL := Lib.hid hsl
        have HOWNK := Lib.hid hown
        have HT2 := Lib.hid ht
        clear hown ht hnow hvv hvD hat hsp hsn hss hsl
        cases hi00 : decide (i = 0) with
        | true =>
         have hi0' : i = 0 := by simpa using hi00
         have hRN : RS = [] := List.length_eq_zero_iff.1 (by have := HRSL.out; omega)
         have HS := HSS.out
         rw [if_pos hRN] at HS
         have HSS2 := Lib.hid HS
         have t0 : ((i : Int) == 0) = true := by rw [hi0']; rfl
         have t1 : (i == 0) = true := by rw [hi0']; rfl
         have z0 : ((wr.setCell ⟨m8, k * 2, none⟩ (.int .i64 vv)).setCell ⟨m8, k * 2 + 1, none⟩ (.int .i64 vv)).cell? ⟨m8, k * 2, none⟩ = some (.int .i64 vv) := by go_simp
         have z1 : ((wr.setCell ⟨m8, k * 2, none⟩ (.int .i64 vv)).setCell ⟨m8, k * 2 + 1, none⟩ (.int .i64 vv)).cell? ⟨m8, k * 2 + 1, none⟩ = some (.int .i64 vv) := by go_simp
         have z2 : ((wr.setCell ⟨m8, k * 2, none⟩ (.int .i64 vv)).setCell ⟨m8, k * 2 + 1, none⟩ (.int .i64 vv)).frozen? ⟨m8, k * 2, none⟩ = false := by go_simp
         have z3 : ((wr.setCell ⟨m8, k * 2, none⟩ (.int .i64 vv)).setCell ⟨m8, k * 2 + 1, none⟩ (.int .i64 vv)).frozen? ⟨m8, k * 2 + 1, none⟩ = false := by go_simp
         clear HS hRN hi00 hi0' HSS
         go_upto_region 19 with fail
         obtain ⟨WR, hWR⟩ : ∃ WR, WR = (wr.setCell ⟨m8, k * 2, none⟩ (.int .i64 vv)).setCell ⟨m8, k * 2 + 1, none⟩ (.int .i64 vv) := ⟨_, rfl⟩
         rw [← hWR] at z0 z1 z2 z3
         rw [← hWR]
         have HWR := Lib.hid hWR
         clear hWR y0 y1 yf0 yf1 v0
         refine wp_region_noPanic ?_
         refine wp_region_any (by kernel_rfl) (wpAny_of_till (z := 18) (S := (fun w' => w'.cell? ⟨m8, k * 2, none⟩ = some (.int .i64 vv) ∧ w'.cell? ⟨m8, k * 2 + 1, none⟩ = some (.int .i64 vv) ∧ w'.frozen? ⟨m8, k * 2, none⟩ = false ∧ w'.frozen? ⟨m8, k * 2 + 1, none⟩ = false)) _ _ _ _ ?_)
         change wpTill _ _ _ _ _ _ _ _ _ WR.drew
         have hS0 := (show (World.drew WR).cell? ⟨m8, k * 2, none⟩ = some (.int .i64 vv) ∧ (World.drew WR).cell? ⟨m8, k * 2 + 1, none⟩ = some (.int .i64 vv) ∧ (World.drew WR).frozen? ⟨m8, k * 2, none⟩ = false ∧ (World.drew WR).frozen? ⟨m8, k * 2 + 1, none⟩ = false from ⟨z0, z1, z2, z3⟩)
         refine till_at (i := 0) (d := some 76) (v := ?_) (by kernel_rfl) (by kernel_rfl) (by kernel_rfl) (by kernel_rfl) (by kernel_rfl) (fun _ _ _ h => h) (fun o ho => ?_) hS0 ?_
         rotate_left
         ·simp only [zA, zB, zD] at ho
          subst ho
          refine Or.inl ⟨by rfl, fun w' hSw => ?_⟩
          obtain ⟨hSw0, hSw1, hSw2, hSw3⟩ := hSw
          go_simp
          try with_reducible rfl
         try simp only [Act.put, yA, yB, yC]
         refine till_at (i := 1) (d := some 77) (v := ?_) (by kernel_rfl) (by kernel_rfl) (by kernel_rfl) (by kernel_rfl) (by kernel_rfl) (fun _ _ _ h => h) (fun o ho => ?_) hS0 ?_
         rotate_left
         ·simp only [zA, zB, zC, zD] at ho
          subst ho
          refine Or.inl ⟨by rfl, fun w' hSw => ?_⟩
          obtain ⟨hSw0, hSw1, hSw2, hSw3⟩ := hSw
          go_simp
          try with_reducible rfl
         try simp only [Act.put, yA, yB, yC]
         refine till_at (i := 2) (d := some 78) (v := ?_) (by kernel_rfl) (by kernel_rfl) (by kernel_rfl) (by kernel_rfl) (by kernel_rfl) (fun _ _ _ h => h) (fun o ho => ?_) hS0 ?_
         rotate_left
         ·simp only [zA, zB, zC, zD] at ho
          subst ho
          refine Or.inl ⟨by rfl, fun w' hSw => ?_⟩
          obtain ⟨hSw0, hSw1, hSw2, hSw3⟩ := hSw
          go_simp
          try with_reducible rfl
         try simp only [Act.put, yA, yB, yC]
         refine till_at (i := 3) (d := some 79) (v := ?_) (by kernel_rfl) (by kernel_rfl) (by kernel_rfl) (by kernel_rfl) (by kernel_rfl) (fun _ _ _ h => h) (fun o ho => ?_) hS0 ?_
         rotate_left
         ·simp only [zA, zB, zC, zD] at ho
          subst ho
          refine Or.inl ⟨by rfl, fun w' hSw => ?_⟩
          obtain ⟨hSw0, hSw1, hSw2, hSw3⟩ := hSw
          go_simp
          try with_reducible rfl
         try simp only [Act.put, yA, yB, yC]
         refine till_at (i := 4) (d := some 80) (v := ?_) (by kernel_rfl) (by kernel_rfl) (by kernel_rfl) (by kernel_rfl) (by kernel_rfl) (fun _ _ _ h => h) (fun o ho => ?_) hS0 ?_
         rotate_left
         ·simp only [zA, zB, zC, zD] at ho
          subst ho
          refine Or.inl ⟨by rfl, fun w' hSw => ?_⟩
          obtain ⟨hSw0, hSw1, hSw2, hSw3⟩ := hSw
          go_simp
          try with_reducible rfl
         try simp only [Act.put, yA, yB, yC]
         refine till_at (i := 5) (d := some 81) (v := ?_) (by kernel_rfl) (by kernel_rfl) (by kernel_rfl) (by kernel_rfl) (by kernel_rfl) (fun _ _ _ h => h) (fun o ho => ?_) hS0 ?_
         rotate_left
         ·simp only [zA, zB, zC, zD] at ho
          subst ho
          refine Or.inl ⟨by rfl, fun w' hSw => ?_⟩
          obtain ⟨hSw0, hSw1, hSw2, hSw3⟩ := hSw
          go_simp
          try with_reducible rfl
         try simp only [Act.put, yA, yB, yC]
         refine till_at (i := 6) (d := some 82) (v := ?_) (by kernel_rfl) (by kernel_rfl) (by kernel_rfl) (by kernel_rfl) (by kernel_rfl) (fun _ _ _ h => h) (fun o ho => ?_) hS0 ?_
         rotate_left
         ·simp only [zA, zB, zC, zD] at ho
          subst ho
          refine Or.inl ⟨by rfl, fun w' hSw => ?_⟩
          obtain ⟨hSw0, hSw1, hSw2, hSw3⟩ := hSw
          go_simp
          try with_reducible rfl
         try simp only [Act.put, yA, yB, yC]
         refine till_at (i := 7) (d := some 83) (v := ?_) (by kernel_rfl) (by kernel_rfl) (by kernel_rfl) (by kernel_rfl) (by kernel_rfl) (fun _ _ _ h => h) (fun o ho => ?_) hS0 ?_
         rotate_left
         ·simp only [zA, zB, zC, zD] at ho
          subst ho
          refine Or.inl ⟨by rfl, fun w' hSw => ?_⟩
          obtain ⟨hSw0, hSw1, hSw2, hSw3⟩ := hSw
          go_simp
          try with_reducible rfl
         try simp only [Act.put, yA, yB, yC]
         refine till_at (i := 8) (d := some 84) (v := ?_) (by kernel_rfl) (by kernel_rfl) (by kernel_rfl) (by kernel_rfl) (by kernel_rfl) (fun _ _ _ h => h) (fun o ho => ?_) hS0 ?_
         rotate_left
         ·simp only [zA, zB, zC, zD] at ho
          subst ho
          refine Or.inl ⟨by rfl, fun w' hSw => ?_⟩
          obtain ⟨hSw0, hSw1, hSw2, hSw3⟩ := hSw
          go_simp
          try with_reducible rfl
         try simp only [Act.put, yA, yB, yC]
         refine till_at (i := 9) (d := some 85) (v := ?_) (by kernel_rfl) (by kernel_rfl) (by kernel_rfl) (by kernel_rfl) (by kernel_rfl) (fun _ _ _ h => h) (fun o ho => ?_) hS0 ?_
         rotate_left
         ·simp only [zA, zB, zC, zD] at ho
          subst ho
          refine Or.inl ⟨by rfl, fun w' hSw => ?_⟩
          obtain ⟨hSw0, hSw1, hSw2, hSw3⟩ := hSw
          go_simp
          try with_reducible rfl
         try simp only [Act.put, yA, yB, yC]
         refine till_at (i := 10) (d := some 86) (v := ?_) (by kernel_rfl) (by kernel_rfl) (by kernel_rfl) (by kernel_rfl) (by kernel_rfl) (fun _ _ _ h => h) (fun o ho => ?_) hS0 ?_
         rotate_left
         ·simp only [zA, zB, zC, zD] at ho
          subst ho
          refine Or.inl ⟨by rfl, fun w' hSw => ?_⟩
          obtain ⟨hSw0, hSw1, hSw2, hSw3⟩ := hSw
          go_simp
          try with_reducible rfl
         try simp only [Act.put, yA, yB, yC]
         refine till_at (i := 11) (d := some 87) (v := ?_) (by kernel_rfl) (by kernel_rfl) (by kernel_rfl) (by kernel_rfl) (by kernel_rfl) (fun _ _ _ h => h) (fun o ho => ?_) hS0 ?_
         rotate_left
         ·simp only [zA, zB, zC, zD] at ho
          subst ho
          refine Or.inl ⟨by rfl, fun w' hSw => ?_⟩
          obtain ⟨hSw0, hSw1, hSw2, hSw3⟩ := hSw
          go_simp
          try with_reducible rfl
         try simp only [Act.put, yA, yB, yC]
         refine till_at (i := 12) (d := some 88) (v := ?_) (by kernel_rfl) (by kernel_rfl) (by kernel_rfl) (by kernel_rfl) (by kernel_rfl) (fun _ _ _ h => h) (fun o ho => ?_) hS0 ?_
         rotate_left
         ·simp only [zA, zB, zC, zD] at ho
          subst ho
          refine Or.inl ⟨by rfl, fun w' hSw => ?_⟩
          obtain ⟨hSw0, hSw1, hSw2, hSw3⟩ := hSw
          go_simp
          try with_reducible rfl
         try simp only [Act.put, yA, yB, yC]
         refine till_at (i := 13) (d := some 89) (v := ?_) (by kernel_rfl) (by kernel_rfl) (by kernel_rfl) (by kernel_rfl) (by kernel_rfl) (fun _ _ _ h => h) (fun o ho => ?_) hS0 ?_
         rotate_left
         ·simp only [zA, zB, zC, zD] at ho
          subst ho
          refine Or.inl ⟨by rfl, fun w' hSw => ?_⟩
          obtain ⟨hSw0, hSw1, hSw2, hSw3⟩ := hSw
          go_simp
          try with_reducible rfl
         try simp only [Act.put, yA, yB, yC]
         refine till_at (i := 14) (d := some 90) (v := ?_) (by kernel_rfl) (by kernel_rfl) (by kernel_rfl) (by kernel_rfl) (by kernel_rfl) (fun _ _ _ h => h) (fun o ho => ?_) hS0 ?_
         rotate_left
         ·simp only [zA, zB, zC, zD] at ho
          subst ho
          refine Or.inl ⟨by rfl, fun w' hSw => ?_⟩
          obtain ⟨hSw0, hSw1, hSw2, hSw3⟩ := hSw
          go_simp
          try with_reducible rfl
         try simp only [Act.put, yA, yB, yC]
         refine till_at (i := 15) (d := some 91) (v := ?_) (by kernel_rfl) (by kernel_rfl) (by kernel_rfl) (by kernel_rfl) (by kernel_rfl) (fun _ _ _ h => h) (fun o ho => ?_) hS0 ?_
         rotate_left
         ·simp only [zA, zB, zC, zD] at ho
          subst ho
          refine Or.inl ⟨by rfl, fun w' hSw => ?_⟩
          obtain ⟨hSw0, hSw1, hSw2, hSw3⟩ := hSw
          go_simp
          try with_reducible rfl
         try simp only [Act.put, yA, yB, yC]
         refine till_at (i := 16) (d := some 92) (v := ?_) (by kernel_rfl) (by kernel_rfl) (by kernel_rfl) (by kernel_rfl) (by kernel_rfl) (fun _ _ _ h => h) (fun o ho => ?_) hS0 ?_
         rotate_left
         ·simp only [zA, zB, zC, zD] at ho
          subst ho
          refine Or.inl ⟨by rfl, fun w' hSw => ?_⟩
          obtain ⟨hSw0, hSw1, hSw2, hSw3⟩ := hSw
          go_simp
          try with_reducible rfl
         try simp only [Act.put, yA, yB, yC]
         refine till_at (i := 17) (d := some 93) (v := ?_) (by kernel_rfl) (by kernel_rfl) (by kernel_rfl) (by kernel_rfl) (by kernel_rfl) (fun _ _ _ h => h) (fun o ho => ?_) hS0 ?_
         rotate_left
         ·simp only [zA, zB, zC, zD] at ho
          subst ho
          refine Or.inl ⟨by rfl, fun w' hSw => ?_⟩
          obtain ⟨hSw0, hSw1, hSw2, hSw3⟩ := hSw
          go_simp
          try with_reducible rfl
         try simp only [Act.put, yA, yB, yC]
         refine till_step (i := 18) (by kernel_rfl) (by kernel_rfl) (fun o ho K' hK => ?_)
         simp only [zA, zB, zC, zD] at ho
         subst ho
         go_simp
         refine hK.out _ _ (fun h => absurd rfl h) (fun _ => ?_)
         clear hK K'
         try simp only [Act.put, yA, yB, yC]
         refine till_done (by kernel_rfl) ?_ _
         refine NoPanic.normal ?_
         try simp only [Act.put, yA, yB, yC]
         have tv : (if vv < vv then vv else vv) = vv := by split <;> rfl
         go_wp2
         go_roundw
         case rel =>
          rw [HWR.out]
          have h1 := (HOWNK.out.stored (k * 2) (.int .i64 vv)).1
          have h2 := (h1.stored (k * 2 + 1) (.int .i64 vv)).1
          have h3 := (h2.stored (k * 2) (.int .i64 vv)).1
          have h4 := (h3.stored (k * 2 + 1) (.int .i64 vv)).1
          rw [span_set (vv, vv) (by rw [HSL.out]; exact hlt3), span_set (vv, vv) (by rw [List.length_set, HSL.out]; exact hlt3), List.set_set, HSS2.out] at h4
          refine ⟨k + 1, by omega, by go_num, ?_, ?_⟩
          ·exact owns_ext h4 (Ext.refl _).drew
          ·have hT1 : Touch (fun i => i = m8) w8 ((wr.setCell ⟨m8, k * 2, none⟩ (.int .i64 vv)).setCell ⟨m8, k * 2 + 1, none⟩ (.int .i64 vv)) := ((HT2.out.trans (Touch.setCell _ rfl)).trans (Touch.setCell _ rfl))
           have hT2 := (hT1.trans (Touch.setCell (a := ⟨m8, k * 2, none⟩) (.int .i64 vv) rfl)).trans (Touch.setCell (a := ⟨m8, k * 2 + 1, none⟩) (.int .i64 vv) rfl)
           exact hT2.trans (Touch.of_ext (Ext.refl _).drew)
         case measure => simp [intOf]; omega
        | false =>
         have hi0' : ¬ i = 0 := by simpa using hi00
         have hRN : RS ≠ [] := fun h => by have := HRSL.out; rw [h] at this; simp at this; omega
         have HS := HSS.out
         rw [if_neg hRN] at HS
         have HSS2 := Lib.hid HS
         have t0 : ((i : Int) == 0) = false := by rw [beq_eq_false_iff_ne]; omega
         have t1 : (i == 0) = false := by rw [beq_eq_false_iff_ne]; exact hi0'
         clear HS hRN hi00 hi0' HSS
         go_upto_region 19 with fail
         clear v0
         refine wp_region_noPanic ?_
         refine wp_region_any (by kernel_rfl) (wpAny_of_till (z := 18) (S := (fun w' => w'.cell? ⟨m8, k * 2, none⟩ = some (.int .i64 lo) ∧ w'.cell? ⟨m8, k * 2 + 1, none⟩ = some (.int .i64 hi0) ∧ w'.frozen? ⟨m8, k * 2, none⟩ = false ∧ w'.frozen? ⟨m8, k * 2 + 1, none⟩ = false)) _ _ _ _ ?_)
         change wpTill _ _ _ _ _ _ _ _ _ wr.drew
         have hS0 := (show (World.drew wr).cell? ⟨m8, k * 2, none⟩ = some (.int .i64 lo) ∧ (World.drew wr).cell? ⟨m8, k * 2 + 1, none⟩ = some (.int .i64 hi0) ∧ (World.drew wr).frozen? ⟨m8, k * 2, none⟩ = false ∧ (World.drew wr).frozen? ⟨m8, k * 2 + 1, none⟩ = false from ⟨y0, y1, yf0, yf1⟩)
         refine till_at (i := 0) (d := some 76) (v := ?_) (by kernel_rfl) (by kernel_rfl) (by kernel_rfl) (by kernel_rfl) (by kernel_rfl) (fun _ _ _ h => h) (fun o ho => ?_) hS0 ?_
         rotate_left
         ·simp only [zA, zB, zD] at ho
          subst ho
          refine Or.inl ⟨by rfl, fun w' hSw => ?_⟩
          obtain ⟨hSw0, hSw1, hSw2, hSw3⟩ := hSw
          go_simp
          try with_reducible rfl
         try simp only [Act.put, yA, yB, yC]
         refine till_at (i := 1) (d := some 77) (v := ?_) (by kernel_rfl) (by kernel_rfl) (by kernel_rfl) (by kernel_rfl) (by kernel_rfl) (fun _ _ _ h => h) (fun o ho => ?_) hS0 ?_
         rotate_left
         ·simp only [zA, zB, zC, zD] at ho
          subst ho
          refine Or.inl ⟨by rfl, fun w' hSw => ?_⟩
          obtain ⟨hSw0, hSw1, hSw2, hSw3⟩ := hSw
          go_simp
          try with_reducible rfl
         try simp only [Act.put, yA, yB, yC]
         refine till_at (i := 2) (d := some 78) (v := ?_) (by kernel_rfl) (by kernel_rfl) (by kernel_rfl) (by kernel_rfl) (by kernel_rfl) (fun _ _ _ h => h) (fun o ho => ?_) hS0 ?_
         rotate_left
         ·simp only [zA, zB, zC, zD] at ho
          subst ho
          refine Or.inl ⟨by rfl, fun w' hSw => ?_⟩
          obtain ⟨hSw0, hSw1, hSw2, hSw3⟩ := hSw
          go_simp
          try with_reducible rfl
         try simp only [Act.put, yA, yB, yC]
         refine till_at (i := 3) (d := some 79) (v := ?_) (by kernel_rfl) (by kernel_rfl) (by kernel_rfl) (by kernel_rfl) (by kernel_rfl) (fun _ _ _ h => h) (fun o ho => ?_) hS0 ?_
         rotate_left
         ·simp only [zA, zB, zC, zD] at ho
          subst ho
          refine Or.inl ⟨by rfl, fun w' hSw => ?_⟩
          obtain ⟨hSw0, hSw1, hSw2, hSw3⟩ := hSw
          go_simp
          try with_reducible rfl
         try simp only [Act.put, yA, yB, yC]
         refine till_at (i := 4) (d := some 80) (v := ?_) (by kernel_rfl) (by kernel_rfl) (by kernel_rfl) (by kernel_rfl) (by kernel_rfl) (fun _ _ _ h => h) (fun o ho => ?_) hS0 ?_
         rotate_left
         ·simp only [zA, zB, zC, zD] at ho
          subst ho
          refine Or.inl ⟨by rfl, fun w' hSw => ?_⟩
          obtain ⟨hSw0, hSw1, hSw2, hSw3⟩ := hSw
          go_simp
          try with_reducible rfl
         try simp only [Act.put, yA, yB, yC]
         refine till_at (i := 5) (d := some 81) (v := ?_) (by kernel_rfl) (by kernel_rfl) (by kernel_rfl) (by kernel_rfl) (by kernel_rfl) (fun _ _ _ h => h) (fun o ho => ?_) hS0 ?_
         rotate_left
         ·simp only [zA, zB, zC, zD] at ho
          subst ho
          refine Or.inl ⟨by rfl, fun w' hSw => ?_⟩
          obtain ⟨hSw0, hSw1, hSw2, hSw3⟩ := hSw
          go_simp
          try with_reducible rfl
         try simp only [Act.put, yA, yB, yC]
         refine till_at (i := 6) (d := some 82) (v := ?_) (by kernel_rfl) (by kernel_rfl) (by kernel_rfl) (by kernel_rfl) (by kernel_rfl) (fun _ _ _ h => h) (fun o ho => ?_) hS0 ?_
         rotate_left
         ·simp only [zA, zB, zC, zD] at ho
          subst ho
          refine Or.inl ⟨by rfl, fun w' hSw => ?_⟩
          obtain ⟨hSw0, hSw1, hSw2, hSw3⟩ := hSw
          go_simp
          try with_reducible rfl
         try simp only [Act.put, yA, yB, yC]
         refine till_at (i := 7) (d := some 83) (v := ?_) (by kernel_rfl) (by kernel_rfl) (by kernel_rfl) (by kernel_rfl) (by kernel_rfl) (fun _ _ _ h => h) (fun o ho => ?_) hS0 ?_
         rotate_left
         ·simp only [zA, zB, zC, zD] at ho
          subst ho
          refine Or.inl ⟨by rfl, fun w' hSw => ?_⟩
          obtain ⟨hSw0, hSw1, hSw2, hSw3⟩ := hSw
          go_simp
          try with_reducible rfl
         try simp only [Act.put, yA, yB, yC]
         refine till_at (i := 8) (d := some 84) (v := ?_) (by kernel_rfl) (by kernel_rfl) (by kernel_rfl) (by kernel_rfl) (by kernel_rfl) (fun _ _ _ h => h) (fun o ho => ?_) hS0 ?_
         rotate_left
         ·simp only [zA, zB, zC, zD] at ho
          subst ho
          refine Or.inl ⟨by rfl, fun w' hSw => ?_⟩
          obtain ⟨hSw0, hSw1, hSw2, hSw3⟩ := hSw
          go_simp
          try with_reducible rfl
         try simp only [Act.put, yA, yB, yC]
         refine till_at (i := 9) (d := some 85) (v := ?_) (by kernel_rfl) (by kernel_rfl) (by kernel_rfl) (by kernel_rfl) (by kernel_rfl) (fun _ _ _ h => h) (fun o ho => ?_) hS0 ?_
         rotate_left
         ·simp only [zA, zB, zC, zD] at ho
          subst ho
          refine Or.inl ⟨by rfl, fun w' hSw => ?_⟩
          obtain ⟨hSw0, hSw1, hSw2, hSw3⟩ := hSw
          go_simp
          try with_reducible rfl
         try simp only [Act.put, yA, yB, yC]
         refine till_at (i := 10) (d := some 86) (v := ?_) (by kernel_rfl) (by kernel_rfl) (by kernel_rfl) (by kernel_rfl) (by kernel_rfl) (fun _ _ _ h => h) (fun o ho => ?_) hS0 ?_
         rotate_left
         ·simp only [zA, zB, zC, zD] at ho
          subst ho
          refine Or.inl ⟨by rfl, fun w' hSw => ?_⟩
          obtain ⟨hSw0, hSw1, hSw2, hSw3⟩ := hSw
          go_simp
          try with_reducible rfl
         try simp only [Act.put, yA, yB, yC]
         refine till_at (i := 11) (d := some 87) (v := ?_) (by kernel_rfl) (by kernel_rfl) (by kernel_rfl) (by kernel_rfl) (by kernel_rfl) (fun _ _ _ h => h) (fun o ho => ?_) hS0 ?_
         rotate_left
         ·simp only [zA, zB, zC, zD] at ho
          subst ho
          refine Or.inl ⟨by rfl, fun w' hSw => ?_⟩
          obtain ⟨hSw0, hSw1, hSw2, hSw3⟩ := hSw
          go_simp
          try with_reducible rfl
         try simp only [Act.put, yA, yB, yC]
         refine till_at (i := 12) (d := some 88) (v := ?_) (by kernel_rfl) (by kernel_rfl) (by kernel_rfl) (by kernel_rfl) (by kernel_rfl) (fun _ _ _ h => h) (fun o ho => ?_) hS0 ?_
         rotate_left
         ·simp only [zA, zB, zC, zD] at ho
          subst ho
          refine Or.inl ⟨by rfl, fun w' hSw => ?_⟩
          obtain ⟨hSw0, hSw1, hSw2, hSw3⟩ := hSw
          go_simp
          try with_reducible rfl
         try simp only [Act.put, yA, yB, yC]
         refine till_at (i := 13) (d := some 89) (v := ?_) (by kernel_rfl) (by kernel_rfl) (by kernel_rfl) (by kernel_rfl) (by kernel_rfl) (fun _ _ _ h => h) (fun o ho => ?_) hS0 ?_
         rotate_left
         ·simp only [zA, zB, zC, zD] at ho
          subst ho
          refine Or.inl ⟨by rfl, fun w' hSw => ?_⟩
          obtain ⟨hSw0, hSw1, hSw2, hSw3⟩ := hSw
          go_simp
          try with_reducible rfl
         try simp only [Act.put, yA, yB, yC]
         refine till_at (i := 14) (d := some 90) (v := ?_) (by kernel_rfl) (by kernel_rfl) (by kernel_rfl) (by kernel_rfl) (by kernel_rfl) (fun _ _ _ h => h) (fun o ho => ?_) hS0 ?_
         rotate_left
         ·simp only [zA, zB, zC, zD] at ho
          subst ho
          refine Or.inl ⟨by rfl, fun w' hSw => ?_⟩
          obtain ⟨hSw0, hSw1, hSw2, hSw3⟩ := hSw
          go_simp
          try with_reducible rfl
         try simp only [Act.put, yA, yB, yC]
         refine till_at (i := 15) (d := some 91) (v := ?_) (by kernel_rfl) (by kernel_rfl) (by kernel_rfl) (by kernel_rfl) (by kernel_rfl) (fun _ _ _ h => h) (fun o ho => ?_) hS0 ?_
         rotate_left
         ·simp only [zA, zB, zC, zD] at ho
          subst ho
          refine Or.inl ⟨by rfl, fun w' hSw => ?_⟩
          obtain ⟨hSw0, hSw1, hSw2, hSw3⟩ := hSw
          go_simp
          try with_reducible rfl
         try simp only [Act.put, yA, yB, yC]
         refine till_at (i := 16) (d := some 92) (v := ?_) (by kernel_rfl) (by kernel_rfl) (by kernel_rfl) (by kernel_rfl) (by kernel_rfl) (fun _ _ _ h => h) (fun o ho => ?_) hS0 ?_
         rotate_left
         ·simp only [zA, zB, zC, zD] at ho
          subst ho
          refine Or.inl ⟨by rfl, fun w' hSw => ?_⟩
          obtain ⟨hSw0, hSw1, hSw2, hSw3⟩ := hSw
          go_simp
          try with_reducible rfl
         try simp only [Act.put, yA, yB, yC]
         refine till_at (i := 17) (d := some 93) (v := ?_) (by kernel_rfl) (by kernel_rfl) (by kernel_rfl) (by kernel_rfl) (by kernel_rfl) (fun _ _ _ h => h) (fun o ho => ?_) hS0 ?_
         rotate_left
         ·simp only [zA, zB, zC, zD] at ho
          subst ho
          refine Or.inl ⟨by rfl, fun w' hSw => ?_⟩
          obtain ⟨hSw0, hSw1, hSw2, hSw3⟩ := hSw
          go_simp
          try with_reducible rfl
         try simp only [Act.put, yA, yB, yC]
         refine till_step (i := 18) (by kernel_rfl) (by kernel_rfl) (fun o ho K' hK => ?_)
         simp only [zA, zB, zC, zD] at ho
         subst ho
         go_simp
         refine hK.out _ _ (fun h => absurd rfl h) (fun _ => ?_)
         clear hK K'
         try simp only [Act.put, yA, yB, yC]
         refine till_done (by kernel_rfl) ?_ _
         refine NoPanic.normal ?_
         try simp only [Act.put, yA, yB, yC]
         go_wp2
         go_roundw
         case rel =>
          have h3 := (HOWNK.out.stored (k * 2) (.int .i64 (if vv < lo then vv else lo))).1
          have h4 := (h3.stored (k * 2 + 1) (.int .i64 (if vv > hi0 then vv else hi0))).1
          rw [span_set (if vv < lo then vv else lo, if vv > hi0 then vv else hi0) (by rw [HSL.out]; exact hlt3), HSS2.out] at h4
          have emin : (if vv < lo then vv else lo) = min lo vv := by split <;> omega
          have emax : (if vv > hi0 then vv else hi0) = max hi0 vv := by split <;> omega
          rw [emin, emax] at h4
          refine ⟨k + 1, by omega, by go_num, ?_, ?_⟩
          ·exact owns_ext h4 (Ext.refl _).drew
          ·have hT1 := HT2.out
           have hT2 := (hT1.trans (Touch.setCell (a := ⟨m8, k * 2, none⟩) (.int .i64 (min lo vv)) rfl)).trans (Touch.setCell (a := ⟨m8, k * 2 + 1, none⟩) (.int .i64 (max hi0 vv)) rfl)
           exact hT2.trans (Touch.of_ext (Ext.refl _).drew)
         case measure => simp [intOf]; omega
       ·have hke : k = b.goods.length := by omega
        rw [hke, spansTo_all, ← HRS2.out] at hown
        have hTT : Touch (fun i => i = m8) w6 wr := Touch.of_new (N := fun i => i = m8 ∨ w6.heap.size ≤ i) (((HT.out.mono (fun _ h => .inl h)).trans (Touch.of_ext HX7.out)).trans ((HT7.out.mono (fun j hj => .inr (by have := HT.out.size; have := HM.out; omega))).trans (ht.mono (fun _ h => .inl h)))) (fun j hj hl => hj.elim id (fun h => by omega))
        have HOWN9 := Lib.hid hown
        have HTT := Lib.hid hTT
        clear hown ht hTT hke
        go_wp2
        go_roundw
        case rel => exact ⟨i + 1, by omega, by go_num, HOWN9.out, HTT.out⟩
        case measure => simp [intOf]; omega
   ·have hie : i = rows.length := by omega
    rw [hie, List.take_length, HSP.out] at hown
    have hl : (wantsB b x).length = b.goods.length := by unfold wantsB; rw [spansL_len]
    have hfin : SpansAt wr (.slice (some ⟨m8, 0, none⟩) b.goods.length b.goods.length) (wantsB b x) := by
     have h := RowAt.of_owns hown
     unfold SpansAt RowOf
     rw [hl]; exact h
    have HFIN := Lib.hid hfin
    have HX := Lib.hid (HX2.out.trans hx2r)
    clear hfin hown ht hx2r hie hl
    go_wp2
    go_ret2
    exact HR.out _ _ HX.out HFIN.out
 ·have hR : ∀ w', Ext w w' → WantsRes b x w (.returned (.tuple #[.slice none 0 0, .int .i64 (letErr b x)])) w' := fun w' h => ⟨h, .inl ⟨hz, rfl⟩⟩
  have HR := Lib.hid hR
  have HL2 := Lib.hid (fun W1 (h : Ext w W1) => (HLE.out W1 h).mono (fun e w' (he : LetRes b x W1 e w') => (he.2.elim (fun q => ⟨q.2, he.1⟩) (fun q => absurd q.1 hz) : e = .returned (.tuple #[.slice none 0 0, .int .i64 (letErr b x)]) ∧ Ext W1 w')))
  have hz0 : (letErr b x == 0) = false := by simpa using hz
  clear hR HLE hz HLL HQ3 HC5
  generalize letErr b x = zz at *
  go_enter Tryz.func16, Tryz.ntmps16
  go_upto_region 1 with fail
  unfold bookBox at hW
  rw [← hW]
  clear hW
  go_wp2_with (go_at_call 43; refine (HL2.out _ HX0.out).mono ?_; rintro r w2 ⟨rfl, hx2⟩)
  go_ret2
  exact HR.out _ (HX0.out.trans hx2)
end Go.Proofs.YtokananogogjaaaGreatDoor
