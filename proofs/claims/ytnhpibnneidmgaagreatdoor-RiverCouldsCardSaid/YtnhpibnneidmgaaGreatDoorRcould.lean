/- The reference's Could. -/
import Derived.Test.YtnhpibnneidmgaaGreatDoorRnar
import Derived.Test.YtnhpibnneidmgaaGreatDoorOnep
namespace Go.Proofs.YtnhpibnneidmgaaGreatDoor
open Go.RowKit
theorem nar_yes {off : Int} {rings : List Int} {p : Nat} {rows : List (List (Int × Int))} {r : Nat} {M : Nat → Prop} {w w' : World} {e : Ending} (h : NarPost off rings p rows r M w e w') (hs : (narrowL off rings p (rows.getD r [])).isSome = true) : ∃ oa oc, e = .returned (.tuple #[.slice oa rows.length oc, .bool true]) ∧ Ext w w' := by
 obtain ⟨h1, h2⟩ := h
 obtain ⟨row, hr⟩ := Option.isSome_iff_exists.1 hs
 rw [hr] at h2
 obtain ⟨oa, oc, he, _⟩ := h2
 exact ⟨oa, oc, he, h1⟩
theorem nar_no {off : Int} {rings : List Int} {p : Nat} {rows : List (List (Int × Int))} {r : Nat} {M : Nat → Prop} {w w' : World} {e : Ending} (h : NarPost off rings p rows r M w e w') (hs : (narrowL off rings p (rows.getD r [])).isSome = false) : e = .returned (.tuple #[.slice none 0 0, .bool false]) ∧ Ext w w' := by
 obtain ⟨h1, h2⟩ := h
 rw [Option.isSome_eq_false_iff, Option.isNone_iff_eq_none] at hs
 rw [hs] at h2
 exact ⟨h2, h1⟩
theorem could_nar {b : Book} {s : Shell} {r y : Nat} {R : River} (h1 : b.rivers[r]? = some R) : (narrowL (R.vary + s.off) s.rings (y + 1 - s.rings.length) ((b.rivers.map River.grow).getD r [])).isSome = couldOne b s ((r : Int), (y : Int)) := by
 rw [narrowL_some]
 unfold couldOne
 have e1 : riverOf b (((r : Int), (y : Int)) : Org).1 = R := riverOf_at h1
 have e2 : (b.rivers.map River.grow).getD r [] = R.grow := by rw [List.getD_eq_getElem?_getD, List.getElem?_map, h1]; rfl
 have e3 : firstY ((r : Int), (y : Int)) s = y + 1 - s.rings.length := by unfold firstY; simp
 rw [e1, e2, e3]
theorem filter_yes {L : List Org} {f : Org → Bool} {k : Nat} {x : Org} (h : L[k]? = some x) (hf : f x = true) : (L.take (k + 1)).filter f = (L.take k).filter f ++ [x] := by
 rw [List.take_add_one, h]; simp [hf]
theorem filter_no {L : List Org} {f : Org → Bool} {k : Nat} {x : Org} (h : L[k]? = some x) (hf : f x = false) : (L.take (k + 1)).filter f = (L.take k).filter f := by
 rw [List.take_add_one, h]; simp [hf]
set_option maxRecDepth 100000 in
set_option maxHeartbeats 4000000 in
theorem rcould_any (bv sv : Value) (b : Book) (s : Shell) (w : World) (hb : BookAt w bv b) (hB : BookB b) (hs : ShellAt w sv s) (hS : ShellB s) :
  Calls Tryz.prog 30 #[bv, sv] w fun e w' => ∃ u, e = .returned u ∧ PairsAt w' u ((originsOf b s.rings.length).filter (couldOne b s)) ∧ Ext w w' := by
 have HRO := Lib.hid (fun w1 (h : Ext w w1) => rorigins_any bv b s.rings.length w1 (hb.ext h) hB hS.n1 (by have := hS.n2; omega))
 have HRW := Lib.hid (fun w1 (h : Ext w w1) => rweather_any bv b w1 (hb.ext h) hB)
 have HNA := Lib.hid (fun (r y : Nat) (R : River) (h1 : b.rivers[r]? = some R) (h2 : (y : Int) < b.years) (h3 : s.rings.length ≤ y + 1) (w2 : World) (wv : Value) (vs : List Value) (base : Nat) (h : Ext w w2) (hr : RowsIn base w2 wv vs (b.rivers.map River.grow)) =>
  rnarrow_any bv wv sv b (b.rivers.map River.grow) s r y R (fun _ => False) w2 (hb.ext h) hB (hr.off.less (fun _ h => h.elim)) (by rw [List.length_map]) (fun l hl => by
   obtain ⟨R', hR', rfl⟩ := List.mem_map.1 hl
   exact hB.len R' hR') (hs.ext h) hS h1 h2 h3 (fun _ h => h.elim))
 have HLE := Lib.hid (org_len (n := s.rings.length) hB hS.n1)
 have HMEM := Lib.hid (fun o (h : o ∈ originsOf b s.rings.length) => originsOf_mem hB hS.n1 h)
 obtain ⟨ra, rc, rfl, _⟩ := hb.slice
 obtain ⟨gv, rfl, hgi⟩ := hs
 obtain ⟨ga, gc, rfl, _⟩ := hgi.open
 obtain ⟨W0, hW0⟩ : ∃ W0, W0 = ((w.alloc (.cells #[.int .i64 b.years, .slice ra b.rivers.length rc] 24)).alloc (.cells #[.slice ga s.rings.length gc, .int .i64 s.off] 31)) := ⟨_, rfl⟩
 have HX0 := Lib.hid (show Ext w W0 by rw [hW0]; exact ((Ext.refl w).alloc _).alloc _)
 have HS := Lib.hid (fun W (h : Ext W0 W) => (⟨h.cell (by rw [hW0]; go_simp), h.cell (by rw [hW0]; go_simp), h.cell (by rw [hW0]; go_simp), h.cell (by rw [hW0]; go_simp)⟩ : W.cell? ⟨w.heap.size, 0, none⟩ = some (.int .i64 b.years) ∧ W.cell? ⟨w.heap.size, 1, none⟩ = some (.slice ra b.rivers.length rc) ∧ W.cell? ⟨w.heap.size + 1, 0, none⟩ = some (.slice ga s.rings.length gc) ∧ W.cell? ⟨w.heap.size + 1, 1, none⟩ = some (.int .i64 s.off)))
 generalize hL : originsOf b s.rings.length = L at HRO HLE HMEM ⊢
 clear hb hgi hL hB hS
 go_enter Tryz.func30, Tryz.ntmps30
 go_upto_region 1 with fail
 rw [← hW0]
 clear hW0
 obtain ⟨b0, b1, b2, b3⟩ := HS.out W0 (Ext.refl _)
 go_wp2_with (go_at_call 76; refine (HRO.out _ HX0.out).mono ?_; rintro e w1 ⟨u1, rfl, hp1, hx1⟩; obtain ⟨la, lc, rfl, l1, l2, l3⟩ := hp1.open; clear b0 b1 b2 b3)
 have H3 := Lib.hid l3
 have HX1 := Lib.hid hx1
 clear l3 hp1 hx1
 go_loopw [5, 7] (fun o i wr => ∃ k : Nat, k ≤ L.length ∧ i = .int .i64 k ∧ wr.ownsRow w1.heap.size 50 2 o ((L.take k).filter (couldOne b s)).length (((L.take k).filter (couldOne b s)).flatMap pairC) ∧ Ext w1 wr) (fun _ i _ => L.length - (intOf i).toNat)
 case atStart => exact ⟨0, Nat.zero_le _, rfl, World.ownsRow_nil _ _ _ _, Ext.refl _⟩
 case round =>
  obtain ⟨k, hk, rfl, hown, hx⟩ := hrel
  obtain ⟨_, _, rfl, _⟩ := RowAt.open (RowAt.of_owns hown)
  have HOWN := Lib.hid hown
  have HX := Lib.hid hx
  by_cases hlt : k < L.length
  ·obtain ⟨lb, lo, o, rfl, hok, c0, c1⟩ := H3.out k hlt
   obtain ⟨r, y, rfl, h1, h2, h3⟩ := HMEM.out o (List.mem_of_getElem? hok.out)
   have x1 : decide ((k : Int) < (L.length : Int)) = true := by simpa using hlt
   have i1 : (0 : Int) ≤ (k : Int) := by omega
   have i2 : (k : Int) < (L.length : Int) := by omega
   obtain ⟨R, hR⟩ : ∃ R, b.rivers[r]? = some R := ⟨b.rivers[r], by simp [h1]⟩
   have HSS := Lib.hid (fun W (h : Ext wr W) => (⟨(HS.out W ((HX1.out.trans hx).trans h)).1, (HS.out W ((HX1.out.trans hx).trans h)).2.1, (HS.out W ((HX1.out.trans hx).trans h)).2.2.1, (HS.out W ((HX1.out.trans hx).trans h)).2.2.2, (hx.trans h).cell c0, (hx.trans h).cell c1⟩ : W.cell? ⟨w.heap.size, 0, none⟩ = some (.int .i64 b.years) ∧ W.cell? ⟨w.heap.size, 1, none⟩ = some (.slice ra b.rivers.length rc) ∧ W.cell? ⟨w.heap.size + 1, 0, none⟩ = some (.slice ga s.rings.length gc) ∧ W.cell? ⟨w.heap.size + 1, 1, none⟩ = some (.int .i64 s.off) ∧ W.cell? ⟨lb, lo + k * 2, none⟩ = some (.int .i64 (r : Int)) ∧ W.cell? ⟨lb, lo + k * 2 + 1, none⟩ = some (.int .i64 (y : Int))))
   have HWE := Lib.hid (fun W (h : Ext wr W) => HRW.out W ((HX0.out.trans (HX1.out.trans hx)).trans h))
   have HNW := Lib.hid (fun (W : World) (wv : Value) (vs : List Value) (base : Nat) (h : Ext wr W) => HNA.out r y R hR h2 h3 W wv vs base ((HX0.out.trans (HX1.out.trans hx)).trans h))
   have hqle : ((L.take k).filter (couldOne b s)).length ≤ 1000 := by
    have h1 := List.length_filter_le (couldOne b s) (L.take k)
    rw [List.length_take] at h1
    have := HLE.out
    omega
   have HSZ := Lib.hid (show ((L.take k).filter (couldOne b s)).length + 1 ≤ maxLen ∧ (((L.take k).filter (couldOne b s)).length + 1) * 16 ≤ 140737488355328 by unfold maxLen; omega)
   have hco := could_nar (b := b) (s := s) (r := r) (y := y) hR
   clear hown hx c0 c1 hqle
   cases hc : couldOne b s ((r : Int), (y : Int)) with
   | true =>
    rw [hc] at hco
    have HCO := Lib.hid hco
    have HFI := Lib.hid (filter_yes (f := couldOne b s) hok.out hc)
    clear hco hc
    go_upto_region 6 with fail
    refine wp_region_held_drew (S := (fun W => W.cell? ⟨w.heap.size, 0, none⟩ = some (.int .i64 b.years) ∧ W.cell? ⟨w.heap.size, 1, none⟩ = some (.slice ra b.rivers.length rc) ∧ W.cell? ⟨w.heap.size + 1, 0, none⟩ = some (.slice ga s.rings.length gc) ∧ W.cell? ⟨w.heap.size + 1, 1, none⟩ = some (.int .i64 s.off) ∧ W.cell? ⟨lb, lo + k * 2, none⟩ = some (.int .i64 (r : Int)) ∧ W.cell? ⟨lb, lo + k * 2 + 1, none⟩ = some (.int .i64 (y : Int)))) (by kernel_rfl) ?_ (fun hHeld => ?_)
    ·exact HSS.out _ (by repeat (first | exact hxe | exact Ext.refl _ | apply Ext.drew | apply Ext.alloc))
    refine hTk (i := 0) (d := some 22) (v := ?_) (fun o ho => ?_) hHeld ?_
    rotate_left
    ·simp only [zA, zB, zD] at ho
     subst ho
     refine ⟨by rfl, fun w hSw => ?_⟩
     (try dsimp only at hSw)
     go_simp
     try with_reducible rfl
    try simp only [Act.put, yA, yB, yC]
    refine hTk (i := 1) (d := some 23) (v := ?_) (fun o ho => ?_) hHeld ?_
    rotate_left
    ·simp only [zA, zB, zC, zD] at ho
     subst ho
     refine ⟨by rfl, fun w hSw => ?_⟩
     (try dsimp only at hSw)
     go_simp
     try with_reducible rfl
    try simp only [Act.put, yA, yB, yC]
    refine hTk (i := 3) (d := some 25) (v := ?_) (fun o ho => ?_) hHeld ?_
    rotate_left
    ·simp only [zA, zB, zC, zD] at ho
     subst ho
     refine ⟨by rfl, fun w hSw => ?_⟩
     (try dsimp only at hSw)
     go_simp
     try with_reducible rfl
    try simp only [Act.put, yA, yB, yC]
    refine hTk (i := 4) (d := some 26) (v := ?_) (fun o ho => ?_) hHeld ?_
    rotate_left
    ·simp only [zA, zB, zC, zD] at ho
     subst ho
     refine ⟨by rfl, fun w hSw => ?_⟩
     (try dsimp only at hSw)
     go_simp
     try with_reducible rfl
    try simp only [Act.put, yA, yB, yC]
    refine hTk (i := 5) (d := some 27) (v := ?_) (fun o ho => ?_) hHeld ?_
    rotate_left
    ·simp only [zA, zB, zC, zD] at ho
     subst ho
     refine ⟨by rfl, fun w hSw => ?_⟩
     (try dsimp only at hSw)
     go_simp
     try with_reducible rfl
    try simp only [Act.put, yA, yB, yC]
    refine hTk (i := 6) (d := some 28) (v := ?_) (fun o ho => ?_) hHeld ?_
    rotate_left
    ·simp only [zA, zB, zC, zD] at ho
     subst ho
     refine ⟨by rfl, fun w hSw => ?_⟩
     (try dsimp only at hSw)
     go_simp
     try with_reducible rfl
    try simp only [Act.put, yA, yB, yC]
    refine hTk (i := 7) (d := some 29) (v := ?_) (fun o ho => ?_) hHeld ?_
    rotate_left
    ·simp only [zA, zB, zC, zD] at ho
     subst ho
     refine ⟨by rfl, fun w hSw => ?_⟩
     (try dsimp only at hSw)
     go_simp
     try with_reducible rfl
    try simp only [Act.put, yA, yB, yC]
    refine wpAnyH_ready (rs := [2]) (by kernel_rfl) (by simp) ?_
    refine held_step (i := 2) (by kernel_rfl) (fun o ho K' hK => ?_) ?_
    ·simp only [zA, zB, zC, zD] at ho
     subst ho
     go_simp
     go_at_call 70
     refine (HWE.out _ (Ext.refl wr).drew).mono ?_
     rintro e w2 ⟨wv, vs, rfl, hrows, hx2⟩
     have hxe : Ext wr w2 := (Ext.refl wr).drew.trans hx2
     have HROWS := Lib.hid hrows
     obtain ⟨pa, pc, rfl, _⟩ := RowAt.open (RowAt.of_owns hrows.own)
     clear hx2 hrows
     try go_simp
     refine hK.out _ _ ?_ (fun hHeld => ?_)
     ·exact HSS.out _ (by repeat (first | exact hxe | exact Ext.refl _ | apply Ext.drew | apply Ext.alloc))
     clear hK K'
     try simp only [yA, yB, yC]
     refine wpAnyH_ready (rs := [8]) (by kernel_rfl) (by simp) ?_
     refine held_step (i := 8) (by kernel_rfl) (fun o ho K' hK => ?_) ?_
     ·simp only [zA, zB, zC, zD] at ho
      subst ho
      go_simp
      go_at_call 77
      refine (HNW.out _ _ _ _ hxe HROWS.out).mono ?_
      rintro e w3 hpost
      obtain ⟨oa, oc, rfl, hx3⟩ := nar_yes hpost HCO.out
      have hxe3 := hxe.trans hx3
      clear hxe hpost
      have hxe := hxe3
      clear hxe3
      try go_simp
      refine hK.out _ _ ?_ (fun hHeld => ?_)
      ·exact HSS.out _ (by repeat (first | exact hxe | exact Ext.refl _ | apply Ext.drew | apply Ext.alloc))
      clear hK K'
      try simp only [yA, yB, yC]
      refine hTk (i := 9) (d := some 21) (v := ?_) (fun o ho => ?_) hHeld ?_
      rotate_left
      ·simp only [zA, zB, zC, zD] at ho
       subst ho
       refine ⟨by rfl, fun w hSw => ?_⟩
       (try dsimp only at hSw)
       go_simp
       try with_reducible rfl
      try simp only [Act.put, yA, yB, yC]
      refine hTk (i := 10) (d := some 31) (v := ?_) (fun o ho => ?_) hHeld ?_
      rotate_left
      ·simp only [zA, zB, zC, zD] at ho
       subst ho
       refine ⟨by rfl, fun w hSw => ?_⟩
       (try dsimp only at hSw)
       go_simp
       try with_reducible rfl
      try simp only [Act.put, yA, yB, yC]
      refine hTk (i := 11) (d := some 32) (v := ?_) (fun o ho => ?_) hHeld ?_
      rotate_left
      ·simp only [zA, zB, zC, zD] at ho
       subst ho
       refine ⟨by rfl, fun w hSw => ?_⟩
       (try dsimp only at hSw)
       go_simp
       try with_reducible rfl
      try simp only [Act.put, yA, yB, yC]
      refine wpAnyH_ready (rs := [12]) (by kernel_rfl) (by simp) ?_
      refine held_step (i := 12) (by kernel_rfl) (fun o ho K' hK => ?_) ?_
      ·simp only [zA, zB, zC, zD] at ho
       subst ho
       go_simp
       refine hK.out _ _ ?_ (fun hHeld => ?_)
       ·exact HSS.out _ (by repeat (first | exact hxe | exact Ext.refl _ | apply Ext.drew | apply Ext.alloc))
       clear hK K'
       try simp only [yA, yB, yC]
       refine wpAnyH_ready (rs := [13]) (by kernel_rfl) (by simp) ?_
       refine held_step (i := 13) (by kernel_rfl) (fun o ho K' hK => ?_) ?_
       ·simp only [zA, zB, zC, zD] at ho
        subst ho
        go_simp
        refine hK.out _ _ ?_ (fun hHeld => ?_)
        ·exact HSS.out _ (by repeat (first | exact hxe | exact Ext.refl _ | apply Ext.drew | apply Ext.alloc))
        clear hK K'
        try simp only [yA, yB, yC]
        refine wpAnyH_done (by kernel_rfl) ?_ _
        try simp only [yA, yB, yC]
        clear hHeld
        have HXE := Lib.hid hxe
        obtain ⟨z0, z1, z2, z3, z4, z5⟩ := HSS.out _ hxe
        go_wp2_with (at_builtin; refine wpList_push_at E_pairs rfl _ _ rfl w1.heap.size rfl (owns_ext HOWN.out HXE.out) rfl (by simp) rfl (by simp [Value.oneCell']) ?_ HSZ.out.1 HSZ.out.2 ((HX.out.trans HXE.out).size); intro g cap w5 hown5 hext5 hg5 hloc5; have HW := Lib.hid (And.intro hown5 (hext5 _ (HX.out.trans HXE.out) (Nat.le_refl _))); clear hown5 hext5 hg5 hloc5)
        refine ⟨⟨k + 1, by omega, by go_num, ?_, HW.out.2⟩, by simp [intOf]; omega⟩
        rw [HFI.out, List.length_append, List.flatMap_append]
        exact HW.out.1
       exact AllReadyH.nil
      exact AllReadyH.nil
     exact AllReadyH.nil
    exact AllReadyH.nil
   | false =>
    rw [hc] at hco
    have HCO := Lib.hid hco
    have HFI := Lib.hid (filter_no (f := couldOne b s) hok.out hc)
    clear hco hc
    go_upto_region 6 with fail
    refine wp_region_held_drew (S := (fun W => W.cell? ⟨w.heap.size, 0, none⟩ = some (.int .i64 b.years) ∧ W.cell? ⟨w.heap.size, 1, none⟩ = some (.slice ra b.rivers.length rc) ∧ W.cell? ⟨w.heap.size + 1, 0, none⟩ = some (.slice ga s.rings.length gc) ∧ W.cell? ⟨w.heap.size + 1, 1, none⟩ = some (.int .i64 s.off) ∧ W.cell? ⟨lb, lo + k * 2, none⟩ = some (.int .i64 (r : Int)) ∧ W.cell? ⟨lb, lo + k * 2 + 1, none⟩ = some (.int .i64 (y : Int)))) (by kernel_rfl) ?_ (fun hHeld => ?_)
    ·exact HSS.out _ (by repeat (first | exact hxe | exact Ext.refl _ | apply Ext.drew | apply Ext.alloc))
    refine hTk (i := 0) (d := some 22) (v := ?_) (fun o ho => ?_) hHeld ?_
    rotate_left
    ·simp only [zA, zB, zD] at ho
     subst ho
     refine ⟨by rfl, fun w hSw => ?_⟩
     (try dsimp only at hSw)
     go_simp
     try with_reducible rfl
    try simp only [Act.put, yA, yB, yC]
    refine hTk (i := 1) (d := some 23) (v := ?_) (fun o ho => ?_) hHeld ?_
    rotate_left
    ·simp only [zA, zB, zC, zD] at ho
     subst ho
     refine ⟨by rfl, fun w hSw => ?_⟩
     (try dsimp only at hSw)
     go_simp
     try with_reducible rfl
    try simp only [Act.put, yA, yB, yC]
    refine hTk (i := 3) (d := some 25) (v := ?_) (fun o ho => ?_) hHeld ?_
    rotate_left
    ·simp only [zA, zB, zC, zD] at ho
     subst ho
     refine ⟨by rfl, fun w hSw => ?_⟩
     (try dsimp only at hSw)
     go_simp
     try with_reducible rfl
    try simp only [Act.put, yA, yB, yC]
    refine hTk (i := 4) (d := some 26) (v := ?_) (fun o ho => ?_) hHeld ?_
    rotate_left
    ·simp only [zA, zB, zC, zD] at ho
     subst ho
     refine ⟨by rfl, fun w hSw => ?_⟩
     (try dsimp only at hSw)
     go_simp
     try with_reducible rfl
    try simp only [Act.put, yA, yB, yC]
    refine hTk (i := 5) (d := some 27) (v := ?_) (fun o ho => ?_) hHeld ?_
    rotate_left
    ·simp only [zA, zB, zC, zD] at ho
     subst ho
     refine ⟨by rfl, fun w hSw => ?_⟩
     (try dsimp only at hSw)
     go_simp
     try with_reducible rfl
    try simp only [Act.put, yA, yB, yC]
    refine hTk (i := 6) (d := some 28) (v := ?_) (fun o ho => ?_) hHeld ?_
    rotate_left
    ·simp only [zA, zB, zC, zD] at ho
     subst ho
     refine ⟨by rfl, fun w hSw => ?_⟩
     (try dsimp only at hSw)
     go_simp
     try with_reducible rfl
    try simp only [Act.put, yA, yB, yC]
    refine hTk (i := 7) (d := some 29) (v := ?_) (fun o ho => ?_) hHeld ?_
    rotate_left
    ·simp only [zA, zB, zC, zD] at ho
     subst ho
     refine ⟨by rfl, fun w hSw => ?_⟩
     (try dsimp only at hSw)
     go_simp
     try with_reducible rfl
    try simp only [Act.put, yA, yB, yC]
    refine wpAnyH_ready (rs := [2]) (by kernel_rfl) (by simp) ?_
    refine held_step (i := 2) (by kernel_rfl) (fun o ho K' hK => ?_) ?_
    ·simp only [zA, zB, zC, zD] at ho
     subst ho
     go_simp
     go_at_call 70
     refine (HWE.out _ (Ext.refl wr).drew).mono ?_
     rintro e w2 ⟨wv, vs, rfl, hrows, hx2⟩
     have hxe : Ext wr w2 := (Ext.refl wr).drew.trans hx2
     have HROWS := Lib.hid hrows
     obtain ⟨pa, pc, rfl, _⟩ := RowAt.open (RowAt.of_owns hrows.own)
     clear hx2 hrows
     try go_simp
     refine hK.out _ _ ?_ (fun hHeld => ?_)
     ·exact HSS.out _ (by repeat (first | exact hxe | exact Ext.refl _ | apply Ext.drew | apply Ext.alloc))
     clear hK K'
     try simp only [yA, yB, yC]
     refine wpAnyH_ready (rs := [8]) (by kernel_rfl) (by simp) ?_
     refine held_step (i := 8) (by kernel_rfl) (fun o ho K' hK => ?_) ?_
     ·simp only [zA, zB, zC, zD] at ho
      subst ho
      go_simp
      go_at_call 77
      refine (HNW.out _ _ _ _ hxe HROWS.out).mono ?_
      rintro e w3 hpost
      obtain ⟨rfl, hx3⟩ := nar_no hpost HCO.out
      have hxe3 := hxe.trans hx3
      clear hxe hpost
      have hxe := hxe3
      clear hxe3
      try go_simp
      refine hK.out _ _ ?_ (fun hHeld => ?_)
      ·exact HSS.out _ (by repeat (first | exact hxe | exact Ext.refl _ | apply Ext.drew | apply Ext.alloc))
      clear hK K'
      try simp only [yA, yB, yC]
      refine hTk (i := 9) (d := some 21) (v := ?_) (fun o ho => ?_) hHeld ?_
      rotate_left
      ·simp only [zA, zB, zC, zD] at ho
       subst ho
       refine ⟨by rfl, fun w hSw => ?_⟩
       (try dsimp only at hSw)
       go_simp
       try with_reducible rfl
      try simp only [Act.put, yA, yB, yC]
      refine hTk (i := 10) (d := some 31) (v := ?_) (fun o ho => ?_) hHeld ?_
      rotate_left
      ·simp only [zA, zB, zC, zD] at ho
       subst ho
       refine ⟨by rfl, fun w hSw => ?_⟩
       (try dsimp only at hSw)
       go_simp
       try with_reducible rfl
      try simp only [Act.put, yA, yB, yC]
      refine hTk (i := 11) (d := some 32) (v := ?_) (fun o ho => ?_) hHeld ?_
      rotate_left
      ·simp only [zA, zB, zC, zD] at ho
       subst ho
       refine ⟨by rfl, fun w hSw => ?_⟩
       (try dsimp only at hSw)
       go_simp
       try with_reducible rfl
      try simp only [Act.put, yA, yB, yC]
      refine wpAnyH_ready (rs := [12]) (by kernel_rfl) (by simp) ?_
      refine held_step (i := 12) (by kernel_rfl) (fun o ho K' hK => ?_) ?_
      ·simp only [zA, zB, zC, zD] at ho
       subst ho
       go_simp
       refine hK.out _ _ ?_ (fun hHeld => ?_)
       ·exact HSS.out _ (by repeat (first | exact hxe | exact Ext.refl _ | apply Ext.drew | apply Ext.alloc))
       clear hK K'
       try simp only [yA, yB, yC]
       refine wpAnyH_ready (rs := [13]) (by kernel_rfl) (by simp) ?_
       refine held_step (i := 13) (by kernel_rfl) (fun o ho K' hK => ?_) ?_
       ·simp only [zA, zB, zC, zD] at ho
        subst ho
        go_simp
        refine hK.out _ _ ?_ (fun hHeld => ?_)
        ·exact HSS.out _ (by repeat (first | exact hxe | exact Ext.refl _ | apply Ext.drew | apply Ext.alloc))
        clear hK K'
        try simp only [yA, yB, yC]
        refine wpAnyH_done (by kernel_rfl) ?_ _
        try simp only [yA, yB, yC]
        clear hHeld
        have HXE := Lib.hid hxe
        go_wp2
        refine ⟨⟨k + 1, by omega, by go_num, ?_, HX.out.trans HXE.out⟩, by simp [intOf]; omega⟩
        rw [HFI.out]
        exact owns_ext HOWN.out HXE.out
       exact AllReadyH.nil
      exact AllReadyH.nil
     exact AllReadyH.nil
    exact AllReadyH.nil
  ·have x1 : decide ((k : Int) < (L.length : Int)) = false := by simp; omega
   have hR := RowAt.of_owns hown
   rw [List.take_of_length_le (show L.length ≤ k by omega)] at hR ⊢
   have HR := Lib.hid hR
   clear hR
   clear hown
   go_wp2
   go_ret
   exact ⟨_, rfl, HR.out, HX0.out.trans (HX1.out.trans hx)⟩
end Go.Proofs.YtnhpibnneidmgaaGreatDoor
