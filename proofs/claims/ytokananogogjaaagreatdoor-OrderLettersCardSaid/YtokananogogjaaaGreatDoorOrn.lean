/- Numbers. -/
import Derived.Test.YtokananogogjaaaGreatDoorOm
namespace Go.Proofs.YtokananogogjaaaGreatDoor
open Go.RowKit
set_option maxRecDepth 100000 in
set_option maxHeartbeats 8000000 in
theorem numbers_any (v : Value) (b : Book) (e n : Int) (w : World) (hb : BookAt w v b) :
 Calls Tryz.prog 30 #[v, .int .i64 e, .int .i64 n] w (NumsRes b (isEditionW b e && isNumberB b n) (numbersB b e.toNat n) w) := by
 have HAS := Lib.hid (fun fine W1 (h : Ext w W1) => asked5_any v b fine W1 (hb.ext h))
 obtain ⟨ga, gc, ea, ec, rfl, hgl, hel⟩ := hb.open
 have HIE := Lib.hid (fun W1 => isEdition_any ga ea b.goods.length gc b.entries.length ec b e W1)
 have HIN := Lib.hid (fun W1 => isNumber_any ga ea gc b.entries.length ec b n W1 hgl)
 obtain ⟨W, hW⟩ : ∃ W, W = w.alloc (bookBox (.slice ga b.goods.length gc) b (.slice ea b.entries.length ec)) := ⟨_, rfl⟩
 have hx0 : Ext w W := by rw [hW]; exact (Ext.refl w).alloc _
 have HX0 := Lib.hid hx0
 have HBW := Lib.hid (hb.ext hx0)
 have c0 : W.cell? ⟨w.heap.size, 0, none⟩ = some (.slice ga b.goods.length gc) := by rw [hW]; go_simp
 have c1 : W.cell? ⟨w.heap.size, 1, none⟩ = some (.int .i64 b.editions) := by rw [hW]; go_simp
 have c2 : W.cell? ⟨w.heap.size, 2, none⟩ = some (.int .i64 b.moves) := by rw [hW]; go_simp
 have c3 : W.cell? ⟨w.heap.size, 3, none⟩ = some (.slice ea b.entries.length ec) := by rw [hW]; go_simp
 have HF := Lib.hid (fun W1 (h : Ext W W1) => (⟨h.cell c0, h.cell c1, h.cell c2, h.cell c3⟩ : _ ∧ _ ∧ _ ∧ _))
 have HFW : Hid (isBookB b = true → isEditionW b e = isEditionB b e) := fun h => edition_eq h e
 clear hb c0 c1 c2 c3 hx0 hgl hel
 generalize hfe : isEditionW b e = fe at *
 generalize hfn : isNumberB b n = fn at *
 have HFE := Lib.hid hfe
 have HFN := Lib.hid hfn
 clear hfe hfn
 go_enter Tryz.func30, Tryz.ntmps30
 go_upto_region 1 with fail
 unfold bookBox at hW
 rw [← hW]
 clear hW
 refine Code.wp_mono (Q := fun ex a' w' => match ex with | .normal => ∃ (B : Nat) (u4 u5 u10 u11 u12 u13 u14 u15 u16 u17 u18 u19 u20 u21 u22 u23 u24 u25 u26 u27 u28 u29 u30 u31 u32 u33 u34 u35 u36 u37 u38 u39 u40 u41 u42 u43 u44 u45 u46 u47 u48 : Value), a' = { tmps := #[(.agg #[.slice ga b.goods.length gc, .int .i64 b.editions, .int .i64 b.moves, .slice ea b.entries.length ec]), .int .i64 e, .int .i64 n, .pointer (some ⟨w.heap.size, 0, none⟩), u4, u5, .slice none 0 0, .int .i64 0, .pointer (some ⟨B, 0, none⟩), .int .i64 (askErr b (fe && fn)), u10, u11, u12, u13, u14, u15, u16, u17, u18, u19, u20, u21, u22, u23, u24, u25, u26, u27, u28, u29, u30, u31, u32, u33, u34, u35, u36, u37, u38, u39, u40, u41, u42, u43, u44, u45, u46, u47, u48], defers := [] } ∧ OpenIn b W B (askErr b (fe && fn)) w' | _ => False) (fun ex a' w' h => ?_) ?_
 rotate_left
 ·cases fe with
  | false =>
   refine wp_region_held_drew (S := (fun W => W.cell? ⟨w.heap.size, 0, none⟩ = some (.slice ga b.goods.length gc) ∧ W.cell? ⟨w.heap.size, 1, none⟩ = some (.int .i64 b.editions) ∧ W.cell? ⟨w.heap.size, 2, none⟩ = some (.int .i64 b.moves) ∧ W.cell? ⟨w.heap.size, 3, none⟩ = some (.slice ea b.entries.length ec))) (by kernel_rfl) ?_ (fun hHeld => ?_)
   ·exact HF.out _ (Ext.refl W).drew
   refine hTk (i := 0) (d := some 14) (v := ?_) (fun o ho => ?_) hHeld ?_
   rotate_left
   ·simp only [zA, zB, zD] at ho
    subst ho
    refine ⟨by rfl, fun w hSw => ?_⟩
    (try dsimp only at hSw)
    go_simp
    try with_reducible rfl
   try simp only [Act.put, yA, yB, yC]
   refine hTk (i := 1) (d := some 15) (v := ?_) (fun o ho => ?_) hHeld ?_
   rotate_left
   ·simp only [zA, zB, zC, zD] at ho
    subst ho
    refine ⟨by rfl, fun w hSw => ?_⟩
    (try dsimp only at hSw)
    go_simp
    try with_reducible rfl
   try simp only [Act.put, yA, yB, yC]
   refine hTk (i := 2) (d := some 16) (v := ?_) (fun o ho => ?_) hHeld ?_
   rotate_left
   ·simp only [zA, zB, zC, zD] at ho
    subst ho
    refine ⟨by rfl, fun w hSw => ?_⟩
    (try dsimp only at hSw)
    go_simp
    try with_reducible rfl
   try simp only [Act.put, yA, yB, yC]
   refine wpAnyH_ready (rs := [3, 13]) (by kernel_rfl) (by simp) ?_
   refine held_step (i := 3) (by kernel_rfl) (fun o ho K' hK => ?_) ?_
   ·simp only [zA, zB, zC, zD] at ho
    subst ho
    go_simp
    go_at_call 46
    refine (HIE.out _).mono ?_
    rintro r w3 ⟨rfl, hz⟩
    have hyw3 : Ext W w3 := Ext.trans eC hz
    have hsw3 := hyw3.size
    clear hz
    try go_simp
    refine hK.out _ _ ?_ (fun hHeld => ?_)
    ·exact HF.out _ eS
    clear hK K'
    refine hTk (i := 4) (d := some 18) (v := ?_) (fun o ho => ?_) hHeld ?_
    rotate_left
    ·simp only [zA, zB, zC, zD] at ho
     subst ho
     refine ⟨by rfl, fun w hSw => ?_⟩
     (try dsimp only at hSw)
     go_simp
     try with_reducible rfl
    try simp only [Act.put, yA, yB, yC]
    refine held_skips (is := [5, 6, 7]) (k := 3) (l' := #[true, true, true, true, true, true, true, true, false, false, false, false, false, false, false, false]) (by kernel_rfl) rfl (by assumption) ?_
    refine hTk (i := 8) (d := some 22) (v := ?_) (fun o ho => ?_) hHeld ?_
    rotate_left
    ·simp only [zA, zB, zC, zD] at ho
     subst ho
     refine ⟨by rfl, fun w hSw => ?_⟩
     (try dsimp only at hSw)
     go_simp
     try with_reducible rfl
    try simp only [Act.put, yA, yB, yC]
    refine wpAnyH_ready (rs := [9, 13]) (by kernel_rfl) (by simp) ?_
    refine held_step (i := 9) (by kernel_rfl) (fun o ho K' hK => ?_) ?_
    ·simp only [zA, zB, zC, zD] at ho
     subst ho
     go_simp
     go_at_call 45
     refine (HAS.out _ _ (HX0.out.trans eC)).mono ?_
     rintro r w9 ⟨a1, n1, c1, x, y, a2, n2, c2, a3, n3, c3, rfl, hz, hop⟩
     have hyw9 : Ext W w9 := Ext.trans eC hz
     have hsw9 := hyw9.size
     try go_simp
     refine hK.out _ _ ?_ (fun hHeld => ?_)
     ·exact HF.out _ eS
     clear hK K'
     refine hTk (i := 10) (d := some 13) (v := ?_) (fun o ho => ?_) hHeld ?_
     rotate_left
     ·simp only [zA, zB, zC, zD] at ho
      subst ho
      refine ⟨by rfl, fun w hSw => ?_⟩
      (try dsimp only at hSw)
      go_simp
      try with_reducible rfl
     try simp only [Act.put, yA, yB, yC]
     refine hTk (i := 11) (d := some 24) (v := ?_) (fun o ho => ?_) hHeld ?_
     rotate_left
     ·simp only [zA, zB, zC, zD] at ho
      subst ho
      refine ⟨by rfl, fun w hSw => ?_⟩
      (try dsimp only at hSw)
      go_simp
      try with_reducible rfl
     try simp only [Act.put, yA, yB, yC]
     refine hTk (i := 12) (d := some 25) (v := ?_) (fun o ho => ?_) hHeld ?_
     rotate_left
     ·simp only [zA, zB, zC, zD] at ho
      subst ho
      refine ⟨by rfl, fun w hSw => ?_⟩
      (try dsimp only at hSw)
      go_simp
      try with_reducible rfl
     try simp only [Act.put, yA, yB, yC]
     refine wpAnyH_ready (rs := [13]) (by kernel_rfl) (by simp) ?_
     refine held_step (i := 13) (by kernel_rfl) (fun o ho K' hK => ?_) ?_
     ·simp only [zA, zB, zC, zD] at ho
      subst ho
      go_simp
      refine hK.out _ _ ?_ (fun hHeld => ?_)
      ·exact HF.out _ eS
      clear hK K'
      refine wpAnyH_ready (rs := [14]) (by kernel_rfl) (by simp) ?_
      refine held_step (i := 14) (by kernel_rfl) (fun o ho K' hK => ?_) ?_
      ·simp only [zA, zB, zC, zD] at ho
       subst ho
       go_simp
       refine hK.out _ _ ?_ (fun hHeld => ?_)
       ·exact HF.out _ eS
       clear hK K'
       refine wpAnyH_ready (rs := [15]) (by kernel_rfl) (by simp) ?_
       refine held_step (i := 15) (by kernel_rfl) (fun o ho K' hK => ?_) ?_
       ·simp only [zA, zB, zC, zD] at ho
        subst ho
        go_simp
        refine hK.out _ _ ?_ (fun hHeld => ?_)
        ·exact HF.out _ eS
        clear hK K'
        refine wpAnyH_done (by kernel_rfl) ?_ _
        clear hHeld
        refine ⟨_, _, _, _, _, _, _, _, _, _, _, _, _, _, _, _, _, _, _, _, _, _, _, _, _, _, _, _, _, _, _, _, _, _, _, _, _, _, _, _, _, _, rfl, ?_⟩
        exact openIn_after HBW.out hyw9 hop
       exact AllReadyH.nil
      exact AllReadyH.nil
     exact AllReadyH.nil
    refine held_step (i := 13) (by kernel_rfl) (fun o ho K' hK => ?_) ?_
    ·simp only [zA, zB, zC, zD] at ho
     subst ho
     go_simp
     refine hK.out _ _ ?_ (fun hHeld => ?_)
     ·exact HF.out _ eS
     clear hK K'
     refine wpAnyH_ready (rs := [9]) (by kernel_rfl) (by simp) ?_
     refine held_step (i := 9) (by kernel_rfl) (fun o ho K' hK => ?_) ?_
     ·simp only [zA, zB, zC, zD] at ho
      subst ho
      go_simp
      go_at_call 45
      refine (HAS.out _ _ (HX0.out.trans eC)).mono ?_
      rintro r w9 ⟨a1, n1, c1, x, y, a2, n2, c2, a3, n3, c3, rfl, hz, hop⟩
      have hyw9 : Ext W w9 := Ext.trans eC hz
      have hsw9 := hyw9.size
      have hzb : w9.heap[w3.heap.size]? = some (.cells #[.slice none 0 0, .int .i64 0, .int .i64 0, .slice none 0 0, .slice none 0 0] 95) := (by first | exact ext_new hz | exact ext_newd hz)
      obtain ⟨⟨y0, y1, y2, y3, y4⟩, x0, x1, x2, x3, x4⟩ := open_cells hzb
      try go_simp
      refine hK.out _ _ ?_ (fun hHeld => ?_)
      ·exact HF.out _ eS
      clear hK K'
      refine hTk (i := 10) (d := some 13) (v := ?_) (fun o ho => ?_) hHeld ?_
      rotate_left
      ·simp only [zA, zB, zC, zD] at ho
       subst ho
       refine ⟨by rfl, fun w hSw => ?_⟩
       (try dsimp only at hSw)
       go_simp
       try with_reducible rfl
      try simp only [Act.put, yA, yB, yC]
      refine hTk (i := 11) (d := some 24) (v := ?_) (fun o ho => ?_) hHeld ?_
      rotate_left
      ·simp only [zA, zB, zC, zD] at ho
       subst ho
       refine ⟨by rfl, fun w hSw => ?_⟩
       (try dsimp only at hSw)
       go_simp
       try with_reducible rfl
      try simp only [Act.put, yA, yB, yC]
      refine hTk (i := 12) (d := some 25) (v := ?_) (fun o ho => ?_) hHeld ?_
      rotate_left
      ·simp only [zA, zB, zC, zD] at ho
       subst ho
       refine ⟨by rfl, fun w hSw => ?_⟩
       (try dsimp only at hSw)
       go_simp
       try with_reducible rfl
      try simp only [Act.put, yA, yB, yC]
      refine wpAnyH_ready (rs := [14]) (by kernel_rfl) (by simp) ?_
      refine held_step (i := 14) (by kernel_rfl) (fun o ho K' hK => ?_) ?_
      ·simp only [zA, zB, zC, zD] at ho
       subst ho
       go_simp
       refine hK.out _ _ ?_ (fun hHeld => ?_)
       ·exact HF.out _ eS
       clear hK K'
       refine wpAnyH_ready (rs := [15]) (by kernel_rfl) (by simp) ?_
       refine held_step (i := 15) (by kernel_rfl) (fun o ho K' hK => ?_) ?_
       ·simp only [zA, zB, zC, zD] at ho
        subst ho
        go_simp
        refine hK.out _ _ ?_ (fun hHeld => ?_)
        ·exact HF.out _ eS
        clear hK K'
        refine wpAnyH_done (by kernel_rfl) ?_ _
        clear hHeld
        refine ⟨_, _, _, _, _, _, _, _, _, _, _, _, _, _, _, _, _, _, _, _, _, _, _, _, _, _, _, _, _, _, _, _, _, _, _, _, _, _, _, _, _, _, rfl, ?_⟩
        exact openIn_before HBW.out hyw9 hzb (by omega) (by first | (simp; done) | (simp; omega) | (simp only [World.size_alloc, World.heap_drew]; omega) | (have := (Array.getElem?_eq_some_iff.1 hzc).1; omega)) hop
       exact AllReadyH.nil
      exact AllReadyH.nil
     exact AllReadyH.nil
    exact AllReadyH.nil
   refine held_step (i := 13) (by kernel_rfl) (fun o ho K' hK => ?_) ?_
   ·simp only [zA, zB, zC, zD] at ho
    subst ho
    go_simp
    refine hK.out _ _ ?_ (fun hHeld => ?_)
    ·exact HF.out _ eS
    clear hK K'
    refine wpAnyH_ready (rs := [3]) (by kernel_rfl) (by simp) ?_
    refine held_step (i := 3) (by kernel_rfl) (fun o ho K' hK => ?_) ?_
    ·simp only [zA, zB, zC, zD] at ho
     subst ho
     go_simp
     go_at_call 46
     refine (HIE.out _).mono ?_
     rintro r w3 ⟨rfl, hz⟩
     have hyw3 : Ext W w3 := Ext.trans eC hz
     have hsw3 := hyw3.size
     have hzb : w3.heap[W.heap.size]? = some (.cells #[.slice none 0 0, .int .i64 0, .int .i64 0, .slice none 0 0, .slice none 0 0] 95) := (by first | exact ext_new hz | exact ext_newd hz)
     clear hz
     try go_simp
     refine hK.out _ _ ?_ (fun hHeld => ?_)
     ·exact HF.out _ eS
     clear hK K'
     refine hTk (i := 4) (d := some 18) (v := ?_) (fun o ho => ?_) hHeld ?_
     rotate_left
     ·simp only [zA, zB, zC, zD] at ho
      subst ho
      refine ⟨by rfl, fun w hSw => ?_⟩
      (try dsimp only at hSw)
      go_simp
      try with_reducible rfl
     try simp only [Act.put, yA, yB, yC]
     refine held_skips (is := [5, 6, 7]) (k := 3) (l' := #[true, true, true, true, true, true, true, true, false, false, false, false, false, true, false, false]) (by kernel_rfl) rfl (by assumption) ?_
     refine hTk (i := 8) (d := some 22) (v := ?_) (fun o ho => ?_) hHeld ?_
     rotate_left
     ·simp only [zA, zB, zC, zD] at ho
      subst ho
      refine ⟨by rfl, fun w hSw => ?_⟩
      (try dsimp only at hSw)
      go_simp
      try with_reducible rfl
     try simp only [Act.put, yA, yB, yC]
     refine wpAnyH_ready (rs := [9]) (by kernel_rfl) (by simp) ?_
     refine held_step (i := 9) (by kernel_rfl) (fun o ho K' hK => ?_) ?_
     ·simp only [zA, zB, zC, zD] at ho
      subst ho
      go_simp
      go_at_call 45
      refine (HAS.out _ _ (HX0.out.trans eC)).mono ?_
      rintro r w9 ⟨a1, n1, c1, x, y, a2, n2, c2, a3, n3, c3, rfl, hz, hop⟩
      have hyw9 : Ext W w9 := Ext.trans eC hz
      have hsw9 := hyw9.size
      have hzc := hzb
      have hzb : w9.heap[W.heap.size]? = some (.cells #[.slice none 0 0, .int .i64 0, .int .i64 0, .slice none 0 0, .slice none 0 0] 95) := ext_block hz hzb
      obtain ⟨⟨y0, y1, y2, y3, y4⟩, x0, x1, x2, x3, x4⟩ := open_cells hzb
      try go_simp
      refine hK.out _ _ ?_ (fun hHeld => ?_)
      ·exact HF.out _ eS
      clear hK K'
      refine hTk (i := 10) (d := some 13) (v := ?_) (fun o ho => ?_) hHeld ?_
      rotate_left
      ·simp only [zA, zB, zC, zD] at ho
       subst ho
       refine ⟨by rfl, fun w hSw => ?_⟩
       (try dsimp only at hSw)
       go_simp
       try with_reducible rfl
      try simp only [Act.put, yA, yB, yC]
      refine hTk (i := 11) (d := some 24) (v := ?_) (fun o ho => ?_) hHeld ?_
      rotate_left
      ·simp only [zA, zB, zC, zD] at ho
       subst ho
       refine ⟨by rfl, fun w hSw => ?_⟩
       (try dsimp only at hSw)
       go_simp
       try with_reducible rfl
      try simp only [Act.put, yA, yB, yC]
      refine hTk (i := 12) (d := some 25) (v := ?_) (fun o ho => ?_) hHeld ?_
      rotate_left
      ·simp only [zA, zB, zC, zD] at ho
       subst ho
       refine ⟨by rfl, fun w hSw => ?_⟩
       (try dsimp only at hSw)
       go_simp
       try with_reducible rfl
      try simp only [Act.put, yA, yB, yC]
      refine wpAnyH_ready (rs := [14]) (by kernel_rfl) (by simp) ?_
      refine held_step (i := 14) (by kernel_rfl) (fun o ho K' hK => ?_) ?_
      ·simp only [zA, zB, zC, zD] at ho
       subst ho
       go_simp
       refine hK.out _ _ ?_ (fun hHeld => ?_)
       ·exact HF.out _ eS
       clear hK K'
       refine wpAnyH_ready (rs := [15]) (by kernel_rfl) (by simp) ?_
       refine held_step (i := 15) (by kernel_rfl) (fun o ho K' hK => ?_) ?_
       ·simp only [zA, zB, zC, zD] at ho
        subst ho
        go_simp
        refine hK.out _ _ ?_ (fun hHeld => ?_)
        ·exact HF.out _ eS
        clear hK K'
        refine wpAnyH_done (by kernel_rfl) ?_ _
        clear hHeld
        refine ⟨_, _, _, _, _, _, _, _, _, _, _, _, _, _, _, _, _, _, _, _, _, _, _, _, _, _, _, _, _, _, _, _, _, _, _, _, _, _, _, _, _, _, rfl, ?_⟩
        exact openIn_before HBW.out hyw9 hzb (by omega) (by first | (simp; done) | (simp; omega) | (simp only [World.size_alloc, World.heap_drew]; omega) | (have := (Array.getElem?_eq_some_iff.1 hzc).1; omega)) hop
       exact AllReadyH.nil
      exact AllReadyH.nil
     exact AllReadyH.nil
    exact AllReadyH.nil
   exact AllReadyH.nil
  | true =>
   refine wp_region_held_drew (S := (fun W => W.cell? ⟨w.heap.size, 0, none⟩ = some (.slice ga b.goods.length gc) ∧ W.cell? ⟨w.heap.size, 1, none⟩ = some (.int .i64 b.editions) ∧ W.cell? ⟨w.heap.size, 2, none⟩ = some (.int .i64 b.moves) ∧ W.cell? ⟨w.heap.size, 3, none⟩ = some (.slice ea b.entries.length ec))) (by kernel_rfl) ?_ (fun hHeld => ?_)
   ·exact HF.out _ (Ext.refl W).drew
   refine hTk (i := 0) (d := some 14) (v := ?_) (fun o ho => ?_) hHeld ?_
   rotate_left
   ·simp only [zA, zB, zD] at ho
    subst ho
    refine ⟨by rfl, fun w hSw => ?_⟩
    (try dsimp only at hSw)
    go_simp
    try with_reducible rfl
   try simp only [Act.put, yA, yB, yC]
   refine hTk (i := 1) (d := some 15) (v := ?_) (fun o ho => ?_) hHeld ?_
   rotate_left
   ·simp only [zA, zB, zC, zD] at ho
    subst ho
    refine ⟨by rfl, fun w hSw => ?_⟩
    (try dsimp only at hSw)
    go_simp
    try with_reducible rfl
   try simp only [Act.put, yA, yB, yC]
   refine hTk (i := 2) (d := some 16) (v := ?_) (fun o ho => ?_) hHeld ?_
   rotate_left
   ·simp only [zA, zB, zC, zD] at ho
    subst ho
    refine ⟨by rfl, fun w hSw => ?_⟩
    (try dsimp only at hSw)
    go_simp
    try with_reducible rfl
   try simp only [Act.put, yA, yB, yC]
   refine wpAnyH_ready (rs := [3, 13]) (by kernel_rfl) (by simp) ?_
   refine held_step (i := 3) (by kernel_rfl) (fun o ho K' hK => ?_) ?_
   ·simp only [zA, zB, zC, zD] at ho
    subst ho
    go_simp
    go_at_call 46
    refine (HIE.out _).mono ?_
    rintro r w3 ⟨rfl, hz⟩
    have hyw3 : Ext W w3 := Ext.trans eC hz
    have hsw3 := hyw3.size
    clear hz
    try go_simp
    refine hK.out _ _ ?_ (fun hHeld => ?_)
    ·exact HF.out _ eS
    clear hK K'
    refine hTk (i := 4) (d := some 18) (v := ?_) (fun o ho => ?_) hHeld ?_
    rotate_left
    ·simp only [zA, zB, zC, zD] at ho
     subst ho
     refine ⟨by rfl, fun w hSw => ?_⟩
     (try dsimp only at hSw)
     go_simp
     try with_reducible rfl
    try simp only [Act.put, yA, yB, yC]
    refine hTk (i := 5) (d := some 19) (v := ?_) (fun o ho => ?_) hHeld ?_
    rotate_left
    ·simp only [zA, zB, zC, zD] at ho
     subst ho
     refine ⟨by rfl, fun w hSw => ?_⟩
     (try dsimp only at hSw)
     go_simp
     try with_reducible rfl
    try simp only [Act.put, yA, yB, yC]
    refine hTk (i := 6) (d := some 20) (v := ?_) (fun o ho => ?_) hHeld ?_
    rotate_left
    ·simp only [zA, zB, zC, zD] at ho
     subst ho
     refine ⟨by rfl, fun w hSw => ?_⟩
     (try dsimp only at hSw)
     go_simp
     try with_reducible rfl
    try simp only [Act.put, yA, yB, yC]
    refine wpAnyH_ready (rs := [7, 13]) (by kernel_rfl) (by simp) ?_
    refine held_step (i := 7) (by kernel_rfl) (fun o ho K' hK => ?_) ?_
    ·simp only [zA, zB, zC, zD] at ho
     subst ho
     go_simp
     go_at_call 47
     refine (HIN.out _).mono ?_
     rintro r w7 ⟨rfl, hz⟩
     have hyw7 : Ext W w7 := Ext.trans eC hz
     have hsw7 := hyw7.size
     clear hz
     try go_simp
     refine hK.out _ _ ?_ (fun hHeld => ?_)
     ·exact HF.out _ eS
     clear hK K'
     refine hTk (i := 8) (d := some 22) (v := ?_) (fun o ho => ?_) hHeld ?_
     rotate_left
     ·simp only [zA, zB, zC, zD] at ho
      subst ho
      refine ⟨by rfl, fun w hSw => ?_⟩
      (try dsimp only at hSw)
      go_simp
      try with_reducible rfl
     try simp only [Act.put, yA, yB, yC]
     refine wpAnyH_ready (rs := [9, 13]) (by kernel_rfl) (by simp) ?_
     refine held_step (i := 9) (by kernel_rfl) (fun o ho K' hK => ?_) ?_
     ·simp only [zA, zB, zC, zD] at ho
      subst ho
      go_simp
      go_at_call 45
      refine (HAS.out _ _ (HX0.out.trans eC)).mono ?_
      rintro r w9 ⟨a1, n1, c1, x, y, a2, n2, c2, a3, n3, c3, rfl, hz, hop⟩
      have hyw9 : Ext W w9 := Ext.trans eC hz
      have hsw9 := hyw9.size
      try go_simp
      refine hK.out _ _ ?_ (fun hHeld => ?_)
      ·exact HF.out _ eS
      clear hK K'
      refine hTk (i := 10) (d := some 13) (v := ?_) (fun o ho => ?_) hHeld ?_
      rotate_left
      ·simp only [zA, zB, zC, zD] at ho
       subst ho
       refine ⟨by rfl, fun w hSw => ?_⟩
       (try dsimp only at hSw)
       go_simp
       try with_reducible rfl
      try simp only [Act.put, yA, yB, yC]
      refine hTk (i := 11) (d := some 24) (v := ?_) (fun o ho => ?_) hHeld ?_
      rotate_left
      ·simp only [zA, zB, zC, zD] at ho
       subst ho
       refine ⟨by rfl, fun w hSw => ?_⟩
       (try dsimp only at hSw)
       go_simp
       try with_reducible rfl
      try simp only [Act.put, yA, yB, yC]
      refine hTk (i := 12) (d := some 25) (v := ?_) (fun o ho => ?_) hHeld ?_
      rotate_left
      ·simp only [zA, zB, zC, zD] at ho
       subst ho
       refine ⟨by rfl, fun w hSw => ?_⟩
       (try dsimp only at hSw)
       go_simp
       try with_reducible rfl
      try simp only [Act.put, yA, yB, yC]
      refine wpAnyH_ready (rs := [13]) (by kernel_rfl) (by simp) ?_
      refine held_step (i := 13) (by kernel_rfl) (fun o ho K' hK => ?_) ?_
      ·simp only [zA, zB, zC, zD] at ho
       subst ho
       go_simp
       refine hK.out _ _ ?_ (fun hHeld => ?_)
       ·exact HF.out _ eS
       clear hK K'
       refine wpAnyH_ready (rs := [14]) (by kernel_rfl) (by simp) ?_
       refine held_step (i := 14) (by kernel_rfl) (fun o ho K' hK => ?_) ?_
       ·simp only [zA, zB, zC, zD] at ho
        subst ho
        go_simp
        refine hK.out _ _ ?_ (fun hHeld => ?_)
        ·exact HF.out _ eS
        clear hK K'
        refine wpAnyH_ready (rs := [15]) (by kernel_rfl) (by simp) ?_
        refine held_step (i := 15) (by kernel_rfl) (fun o ho K' hK => ?_) ?_
        ·simp only [zA, zB, zC, zD] at ho
         subst ho
         go_simp
         refine hK.out _ _ ?_ (fun hHeld => ?_)
         ·exact HF.out _ eS
         clear hK K'
         refine wpAnyH_done (by kernel_rfl) ?_ _
         clear hHeld
         refine ⟨_, _, _, _, _, _, _, _, _, _, _, _, _, _, _, _, _, _, _, _, _, _, _, _, _, _, _, _, _, _, _, _, _, _, _, _, _, _, _, _, _, _, rfl, ?_⟩
         exact openIn_after HBW.out hyw9 hop
        exact AllReadyH.nil
       exact AllReadyH.nil
      exact AllReadyH.nil
     refine held_step (i := 13) (by kernel_rfl) (fun o ho K' hK => ?_) ?_
     ·simp only [zA, zB, zC, zD] at ho
      subst ho
      go_simp
      refine hK.out _ _ ?_ (fun hHeld => ?_)
      ·exact HF.out _ eS
      clear hK K'
      refine wpAnyH_ready (rs := [9]) (by kernel_rfl) (by simp) ?_
      refine held_step (i := 9) (by kernel_rfl) (fun o ho K' hK => ?_) ?_
      ·simp only [zA, zB, zC, zD] at ho
       subst ho
       go_simp
       go_at_call 45
       refine (HAS.out _ _ (HX0.out.trans eC)).mono ?_
       rintro r w9 ⟨a1, n1, c1, x, y, a2, n2, c2, a3, n3, c3, rfl, hz, hop⟩
       have hyw9 : Ext W w9 := Ext.trans eC hz
       have hsw9 := hyw9.size
       have hzb : w9.heap[w7.heap.size]? = some (.cells #[.slice none 0 0, .int .i64 0, .int .i64 0, .slice none 0 0, .slice none 0 0] 95) := (by first | exact ext_new hz | exact ext_newd hz)
       obtain ⟨⟨y0, y1, y2, y3, y4⟩, x0, x1, x2, x3, x4⟩ := open_cells hzb
       try go_simp
       refine hK.out _ _ ?_ (fun hHeld => ?_)
       ·exact HF.out _ eS
       clear hK K'
       refine hTk (i := 10) (d := some 13) (v := ?_) (fun o ho => ?_) hHeld ?_
       rotate_left
       ·simp only [zA, zB, zC, zD] at ho
        subst ho
        refine ⟨by rfl, fun w hSw => ?_⟩
        (try dsimp only at hSw)
        go_simp
        try with_reducible rfl
       try simp only [Act.put, yA, yB, yC]
       refine hTk (i := 11) (d := some 24) (v := ?_) (fun o ho => ?_) hHeld ?_
       rotate_left
       ·simp only [zA, zB, zC, zD] at ho
        subst ho
        refine ⟨by rfl, fun w hSw => ?_⟩
        (try dsimp only at hSw)
        go_simp
        try with_reducible rfl
       try simp only [Act.put, yA, yB, yC]
       refine hTk (i := 12) (d := some 25) (v := ?_) (fun o ho => ?_) hHeld ?_
       rotate_left
       ·simp only [zA, zB, zC, zD] at ho
        subst ho
        refine ⟨by rfl, fun w hSw => ?_⟩
        (try dsimp only at hSw)
        go_simp
        try with_reducible rfl
       try simp only [Act.put, yA, yB, yC]
       refine wpAnyH_ready (rs := [14]) (by kernel_rfl) (by simp) ?_
       refine held_step (i := 14) (by kernel_rfl) (fun o ho K' hK => ?_) ?_
       ·simp only [zA, zB, zC, zD] at ho
        subst ho
        go_simp
        refine hK.out _ _ ?_ (fun hHeld => ?_)
        ·exact HF.out _ eS
        clear hK K'
        refine wpAnyH_ready (rs := [15]) (by kernel_rfl) (by simp) ?_
        refine held_step (i := 15) (by kernel_rfl) (fun o ho K' hK => ?_) ?_
        ·simp only [zA, zB, zC, zD] at ho
         subst ho
         go_simp
         refine hK.out _ _ ?_ (fun hHeld => ?_)
         ·exact HF.out _ eS
         clear hK K'
         refine wpAnyH_done (by kernel_rfl) ?_ _
         clear hHeld
         refine ⟨_, _, _, _, _, _, _, _, _, _, _, _, _, _, _, _, _, _, _, _, _, _, _, _, _, _, _, _, _, _, _, _, _, _, _, _, _, _, _, _, _, _, rfl, ?_⟩
         exact openIn_before HBW.out hyw9 hzb (by omega) (by first | (simp; done) | (simp; omega) | (simp only [World.size_alloc, World.heap_drew]; omega) | (have := (Array.getElem?_eq_some_iff.1 hzc).1; omega)) hop
        exact AllReadyH.nil
       exact AllReadyH.nil
      exact AllReadyH.nil
     exact AllReadyH.nil
    refine held_step (i := 13) (by kernel_rfl) (fun o ho K' hK => ?_) ?_
    ·simp only [zA, zB, zC, zD] at ho
     subst ho
     go_simp
     refine hK.out _ _ ?_ (fun hHeld => ?_)
     ·exact HF.out _ eS
     clear hK K'
     refine wpAnyH_ready (rs := [7]) (by kernel_rfl) (by simp) ?_
     refine held_step (i := 7) (by kernel_rfl) (fun o ho K' hK => ?_) ?_
     ·simp only [zA, zB, zC, zD] at ho
      subst ho
      go_simp
      go_at_call 47
      refine (HIN.out _).mono ?_
      rintro r w7 ⟨rfl, hz⟩
      have hyw7 : Ext W w7 := Ext.trans eC hz
      have hsw7 := hyw7.size
      have hzb : w7.heap[w3.heap.size]? = some (.cells #[.slice none 0 0, .int .i64 0, .int .i64 0, .slice none 0 0, .slice none 0 0] 95) := (by first | exact ext_new hz | exact ext_newd hz)
      clear hz
      try go_simp
      refine hK.out _ _ ?_ (fun hHeld => ?_)
      ·exact HF.out _ eS
      clear hK K'
      refine hTk (i := 8) (d := some 22) (v := ?_) (fun o ho => ?_) hHeld ?_
      rotate_left
      ·simp only [zA, zB, zC, zD] at ho
       subst ho
       refine ⟨by rfl, fun w hSw => ?_⟩
       (try dsimp only at hSw)
       go_simp
       try with_reducible rfl
      try simp only [Act.put, yA, yB, yC]
      refine wpAnyH_ready (rs := [9]) (by kernel_rfl) (by simp) ?_
      refine held_step (i := 9) (by kernel_rfl) (fun o ho K' hK => ?_) ?_
      ·simp only [zA, zB, zC, zD] at ho
       subst ho
       go_simp
       go_at_call 45
       refine (HAS.out _ _ (HX0.out.trans eC)).mono ?_
       rintro r w9 ⟨a1, n1, c1, x, y, a2, n2, c2, a3, n3, c3, rfl, hz, hop⟩
       have hyw9 : Ext W w9 := Ext.trans eC hz
       have hsw9 := hyw9.size
       have hzc := hzb
       have hzb : w9.heap[w3.heap.size]? = some (.cells #[.slice none 0 0, .int .i64 0, .int .i64 0, .slice none 0 0, .slice none 0 0] 95) := ext_block hz hzb
       obtain ⟨⟨y0, y1, y2, y3, y4⟩, x0, x1, x2, x3, x4⟩ := open_cells hzb
       try go_simp
       refine hK.out _ _ ?_ (fun hHeld => ?_)
       ·exact HF.out _ eS
       clear hK K'
       refine hTk (i := 10) (d := some 13) (v := ?_) (fun o ho => ?_) hHeld ?_
       rotate_left
       ·simp only [zA, zB, zC, zD] at ho
        subst ho
        refine ⟨by rfl, fun w hSw => ?_⟩
        (try dsimp only at hSw)
        go_simp
        try with_reducible rfl
       try simp only [Act.put, yA, yB, yC]
       refine hTk (i := 11) (d := some 24) (v := ?_) (fun o ho => ?_) hHeld ?_
       rotate_left
       ·simp only [zA, zB, zC, zD] at ho
        subst ho
        refine ⟨by rfl, fun w hSw => ?_⟩
        (try dsimp only at hSw)
        go_simp
        try with_reducible rfl
       try simp only [Act.put, yA, yB, yC]
       refine hTk (i := 12) (d := some 25) (v := ?_) (fun o ho => ?_) hHeld ?_
       rotate_left
       ·simp only [zA, zB, zC, zD] at ho
        subst ho
        refine ⟨by rfl, fun w hSw => ?_⟩
        (try dsimp only at hSw)
        go_simp
        try with_reducible rfl
       try simp only [Act.put, yA, yB, yC]
       refine wpAnyH_ready (rs := [14]) (by kernel_rfl) (by simp) ?_
       refine held_step (i := 14) (by kernel_rfl) (fun o ho K' hK => ?_) ?_
       ·simp only [zA, zB, zC, zD] at ho
        subst ho
        go_simp
        refine hK.out _ _ ?_ (fun hHeld => ?_)
        ·exact HF.out _ eS
        clear hK K'
        refine wpAnyH_ready (rs := [15]) (by kernel_rfl) (by simp) ?_
        refine held_step (i := 15) (by kernel_rfl) (fun o ho K' hK => ?_) ?_
        ·simp only [zA, zB, zC, zD] at ho
         subst ho
         go_simp
         refine hK.out _ _ ?_ (fun hHeld => ?_)
         ·exact HF.out _ eS
         clear hK K'
         refine wpAnyH_done (by kernel_rfl) ?_ _
         clear hHeld
         refine ⟨_, _, _, _, _, _, _, _, _, _, _, _, _, _, _, _, _, _, _, _, _, _, _, _, _, _, _, _, _, _, _, _, _, _, _, _, _, _, _, _, _, _, rfl, ?_⟩
         exact openIn_before HBW.out hyw9 hzb (by omega) (by first | (simp; done) | (simp; omega) | (simp only [World.size_alloc, World.heap_drew]; omega) | (have := (Array.getElem?_eq_some_iff.1 hzc).1; omega)) hop
        exact AllReadyH.nil
       exact AllReadyH.nil
      exact AllReadyH.nil
     exact AllReadyH.nil
    exact AllReadyH.nil
   refine held_step (i := 13) (by kernel_rfl) (fun o ho K' hK => ?_) ?_
   ·simp only [zA, zB, zC, zD] at ho
    subst ho
    go_simp
    refine hK.out _ _ ?_ (fun hHeld => ?_)
    ·exact HF.out _ eS
    clear hK K'
    refine wpAnyH_ready (rs := [3]) (by kernel_rfl) (by simp) ?_
    refine held_step (i := 3) (by kernel_rfl) (fun o ho K' hK => ?_) ?_
    ·simp only [zA, zB, zC, zD] at ho
     subst ho
     go_simp
     go_at_call 46
     refine (HIE.out _).mono ?_
     rintro r w3 ⟨rfl, hz⟩
     have hyw3 : Ext W w3 := Ext.trans eC hz
     have hsw3 := hyw3.size
     have hzb : w3.heap[W.heap.size]? = some (.cells #[.slice none 0 0, .int .i64 0, .int .i64 0, .slice none 0 0, .slice none 0 0] 95) := (by first | exact ext_new hz | exact ext_newd hz)
     clear hz
     try go_simp
     refine hK.out _ _ ?_ (fun hHeld => ?_)
     ·exact HF.out _ eS
     clear hK K'
     refine hTk (i := 4) (d := some 18) (v := ?_) (fun o ho => ?_) hHeld ?_
     rotate_left
     ·simp only [zA, zB, zC, zD] at ho
      subst ho
      refine ⟨by rfl, fun w hSw => ?_⟩
      (try dsimp only at hSw)
      go_simp
      try with_reducible rfl
     try simp only [Act.put, yA, yB, yC]
     refine hTk (i := 5) (d := some 19) (v := ?_) (fun o ho => ?_) hHeld ?_
     rotate_left
     ·simp only [zA, zB, zC, zD] at ho
      subst ho
      refine ⟨by rfl, fun w hSw => ?_⟩
      (try dsimp only at hSw)
      go_simp
      try with_reducible rfl
     try simp only [Act.put, yA, yB, yC]
     refine hTk (i := 6) (d := some 20) (v := ?_) (fun o ho => ?_) hHeld ?_
     rotate_left
     ·simp only [zA, zB, zC, zD] at ho
      subst ho
      refine ⟨by rfl, fun w hSw => ?_⟩
      (try dsimp only at hSw)
      go_simp
      try with_reducible rfl
     try simp only [Act.put, yA, yB, yC]
     refine wpAnyH_ready (rs := [7]) (by kernel_rfl) (by simp) ?_
     refine held_step (i := 7) (by kernel_rfl) (fun o ho K' hK => ?_) ?_
     ·simp only [zA, zB, zC, zD] at ho
      subst ho
      go_simp
      go_at_call 47
      refine (HIN.out _).mono ?_
      rintro r w7 ⟨rfl, hz⟩
      have hyw7 : Ext W w7 := Ext.trans eC hz
      have hsw7 := hyw7.size
      have hzb : w7.heap[W.heap.size]? = some (.cells #[.slice none 0 0, .int .i64 0, .int .i64 0, .slice none 0 0, .slice none 0 0] 95) := ext_block hz hzb
      clear hz
      try go_simp
      refine hK.out _ _ ?_ (fun hHeld => ?_)
      ·exact HF.out _ eS
      clear hK K'
      refine hTk (i := 8) (d := some 22) (v := ?_) (fun o ho => ?_) hHeld ?_
      rotate_left
      ·simp only [zA, zB, zC, zD] at ho
       subst ho
       refine ⟨by rfl, fun w hSw => ?_⟩
       (try dsimp only at hSw)
       go_simp
       try with_reducible rfl
      try simp only [Act.put, yA, yB, yC]
      refine wpAnyH_ready (rs := [9]) (by kernel_rfl) (by simp) ?_
      refine held_step (i := 9) (by kernel_rfl) (fun o ho K' hK => ?_) ?_
      ·simp only [zA, zB, zC, zD] at ho
       subst ho
       go_simp
       go_at_call 45
       refine (HAS.out _ _ (HX0.out.trans eC)).mono ?_
       rintro r w9 ⟨a1, n1, c1, x, y, a2, n2, c2, a3, n3, c3, rfl, hz, hop⟩
       have hyw9 : Ext W w9 := Ext.trans eC hz
       have hsw9 := hyw9.size
       have hzc := hzb
       have hzb : w9.heap[W.heap.size]? = some (.cells #[.slice none 0 0, .int .i64 0, .int .i64 0, .slice none 0 0, .slice none 0 0] 95) := ext_block hz hzb
       obtain ⟨⟨y0, y1, y2, y3, y4⟩, x0, x1, x2, x3, x4⟩ := open_cells hzb
       try go_simp
       refine hK.out _ _ ?_ (fun hHeld => ?_)
       ·exact HF.out _ eS
       clear hK K'
       refine hTk (i := 10) (d := some 13) (v := ?_) (fun o ho => ?_) hHeld ?_
       rotate_left
       ·simp only [zA, zB, zC, zD] at ho
        subst ho
        refine ⟨by rfl, fun w hSw => ?_⟩
        (try dsimp only at hSw)
        go_simp
        try with_reducible rfl
       try simp only [Act.put, yA, yB, yC]
       refine hTk (i := 11) (d := some 24) (v := ?_) (fun o ho => ?_) hHeld ?_
       rotate_left
       ·simp only [zA, zB, zC, zD] at ho
        subst ho
        refine ⟨by rfl, fun w hSw => ?_⟩
        (try dsimp only at hSw)
        go_simp
        try with_reducible rfl
       try simp only [Act.put, yA, yB, yC]
       refine hTk (i := 12) (d := some 25) (v := ?_) (fun o ho => ?_) hHeld ?_
       rotate_left
       ·simp only [zA, zB, zC, zD] at ho
        subst ho
        refine ⟨by rfl, fun w hSw => ?_⟩
        (try dsimp only at hSw)
        go_simp
        try with_reducible rfl
       try simp only [Act.put, yA, yB, yC]
       refine wpAnyH_ready (rs := [14]) (by kernel_rfl) (by simp) ?_
       refine held_step (i := 14) (by kernel_rfl) (fun o ho K' hK => ?_) ?_
       ·simp only [zA, zB, zC, zD] at ho
        subst ho
        go_simp
        refine hK.out _ _ ?_ (fun hHeld => ?_)
        ·exact HF.out _ eS
        clear hK K'
        refine wpAnyH_ready (rs := [15]) (by kernel_rfl) (by simp) ?_
        refine held_step (i := 15) (by kernel_rfl) (fun o ho K' hK => ?_) ?_
        ·simp only [zA, zB, zC, zD] at ho
         subst ho
         go_simp
         refine hK.out _ _ ?_ (fun hHeld => ?_)
         ·exact HF.out _ eS
         clear hK K'
         refine wpAnyH_done (by kernel_rfl) ?_ _
         clear hHeld
         refine ⟨_, _, _, _, _, _, _, _, _, _, _, _, _, _, _, _, _, _, _, _, _, _, _, _, _, _, _, _, _, _, _, _, _, _, _, _, _, _, _, _, _, _, rfl, ?_⟩
         exact openIn_before HBW.out hyw9 hzb (by omega) (by first | (simp; done) | (simp; omega) | (simp only [World.size_alloc, World.heap_drew]; omega) | (have := (Array.getElem?_eq_some_iff.1 hzc).1; omega)) hop
        exact AllReadyH.nil
       exact AllReadyH.nil
      exact AllReadyH.nil
     exact AllReadyH.nil
    exact AllReadyH.nil
   exact AllReadyH.nil
 cases ex with
 | normal =>
  obtain ⟨B, u4, u5, u10, u11, u12, u13, u14, u15, u16, u17, u18, u19, u20, u21, u22, u23, u24, u25, u26, u27, u28, u29, u30, u31, u32, u33, u34, u35, u36, u37, u38, u39, u40, u41, u42, u43, u44, u45, u46, u47, u48, rfl, hxW, a1, n1, c1, x, y, a2, n2, c2, a3, n3, c3, hblk, hopn⟩ := h
  clear HAS HIE HIN HF HBW
  obtain ⟨⟨y0, y1, y2, y3, y4⟩, _⟩ := open_cells hblk
  clear y0 y1 y2 y3 hblk
  have HXW := Lib.hid (HX0.out.trans hxW)
  clear hxW HX0
  rcases askErr_or b (fe && fn) with ⟨hz, hbk, hfine, hpg⟩ | hz
  ·have hB := bookB_of hbk
   obtain ⟨rfl, rfl⟩ : fe = true ∧ fn = true := by cases fe <;> cases fn <;> simp at hfine ⊢
   have hE := HFW.out hbk
   have hop := hopn hz
   have hR : ∀ w' u, Ext w w' → IntsAt w' u (numbersB b e.toNat n) → NumsRes b (true && true) (numbersB b e.toNat n) w (.returned (.tuple #[u, .int .i64 0])) w' := fun w' u h hu => ⟨h, .inr ⟨hz, u, rfl, hu⟩⟩
   have HR := Lib.hid hR
   have hE2 : isEditionB b e = true := hE.symm
   have hN2 := HFN.out
   unfold isEditionB at hE2
   unfold isNumberB at hN2
   rw [inB_iff] at hE2 hN2
   obtain ⟨E, rfl⟩ : ∃ E : Nat, e = E := ⟨e.toNat, by omega⟩
   obtain ⟨N, rfl⟩ : ∃ N : Nat, n = N := ⟨n.toNat, by omega⟩
   have hEe : (E : Int) < b.editions := by omega
   have hNn : N < b.goods.length := by omega
   obtain ⟨_, _, _, _, ob, oc, no, hve, hno, hno1, hoc, _, hpr⟩ := hop.open hB
   cases hve
   obtain ⟨va, vc, r, hp⟩ := hpr E hEe
   have hne := page_ne hpg hEe
   have hrl : 0 < r.length := by
    have h1 := congrArg List.length hp.ls
    rw [List.length_map] at h1
    have := List.length_pos_iff.2 hne
    omega
   rw [hz]
   have hlen := hp.len
   obtain ⟨_, _, hve, l1, l2, l3⟩ := RowOf.open3 (f := pgC) (fun _ => rfl) hp.row
   cases hve
   have y5 := hp.cell
   have HL3 := Lib.hid l3
   have HMN := Lib.hid hp.mean
   have HPM : Hid (∀ p, p ∈ r → p.l ∈ permsB b) := fun p hp' => page_perm (e := E) (by rw [← hp.ls]; exact List.mem_map_of_mem hp')
   have HLS := Lib.hid (page_nums (F := fun l : List Int => idxL (N : Int) l) hp.ls)
   have e1 : (0 : Int) ≤ (E : Int) := by omega
   have e2 : (E : Int) < (n3 : Int) := by omega
   clear hR hE2 hN2 hE hfine hopn hop hpr hp l3 hne hpg hz HFW HFE HFN hno
   go_wp2
   go_loopw [10, 35] (fun o j wr => ∃ k : Nat, k ≤ r.length ∧ j = .int .i64 (k : Int) ∧ wr.ownsRow w'.heap.size 3 1 o k (((r.take k).map fun p => (fun l : List Int => idxL (N : Int) l) p.l).map (.int .i64)) ∧ Ext w' wr) (fun _ j _ => r.length - (intOf j).toNat)
   case atStart => exact ⟨0, Nat.zero_le _, rfl, World.ownsRow_nil _ _ _ _, Ext.refl _⟩
   case round =>
    obtain ⟨k, hk, rfl, hown, hx⟩ := hrel
    by_cases hlt : k < r.length
    ·obtain ⟨bb, bo, p, rfl, hpk, c0, c1, c2⟩ := HL3.out k hlt
     have hpm := List.mem_of_getElem? hpk.out
     have hmi := (HMN.out p hpm).ext hx
     have hpl := (perms_mem.1 (HPM.out p hpm)).1
     have HNP := Lib.hid (nums_push (F := fun p => (fun l : List Int => idxL (N : Int) l) p.l) hpk.out)
     have d0 := hx.cell c0
     have d1 := hx.cell c1
     have d2 := hx.cell c2
     have k1 : (0 : Int) ≤ (k : Int) := by omega
     have k2 : (k : Int) < (r.length : Int) := by omega
     have HSZ := Lib.hid (show k + 1 ≤ maxLen ∧ (k + 1) * 8 ≤ 140737488355328 by unfold maxLen; omega)
     obtain ⟨_, _, rfl, _⟩ := RowAt.open (RowAt.of_owns hown)
     have HOWN := Lib.hid hown
     have HX := Lib.hid hx
     simp only at HNP
     have hx3 : Ext wr (wr.alloc (.cells #[p.v, .int .i64 p.bef, .int .i64 p.aft] 100)) := (Ext.refl wr).alloc _
     have hpp := perms_mem.1 (HPM.out p hpm)
     have hin := perm_has hpp.1 hpp.2.1 hpp.2.2 (g := (N : Int)) (by omega) (by omega)
     have HIX := Lib.hid (fun W' (h : Ext wr W') => (index_any p.v p.l N W' (hmi.ext h)).mono (fun e w' (he : IdxIn _ _ _ _ _) => (let ⟨q, h1, h2, _, h4⟩ := he; ⟨by rw [h1, h2 hin], h4⟩ : e = .returned (.int .i64 (idxL (N : Int) p.l)) ∧ W' = w')))
     obtain ⟨ma, mc, hmv, _⟩ := hmi.open
     rw [hpl] at hmv
     rw [hmv] at d0 hx3 HIX
     generalize idxL (N : Int) p.l = ix at HIX HNP
     clear hmi hpp hin
     clear hown hx hpk c0 c1 c2 y4 y5
     go_wp2_with (first
      | (go_at_call 54; refine (HIX.out _ hx3).mono ?_; rintro e w4 ⟨rfl, rfl⟩)
      | (at_builtin; refine wpList_push_at E_ints rfl _ _ rfl w'.heap.size rfl (owns_ext HOWN.out hx3) rfl (by simp) rfl (by simp [Value.oneCell']) ?_ HSZ.out.1 HSZ.out.2 (HX.out.trans hx3).size; intro g cap w5 hown5 hext5 hg5 hloc5))
     go_roundw
     case rel => exact ⟨k + 1, by omega, by go_num, by rw [HNP.out]; exact hown5, hext5 _ (HX.out.trans hx3) (Nat.le_refl _)⟩
     case measure => simp [intOf]; omega
    ·have hke : r.take k = r := List.take_of_length_le (by omega)
     rw [hke] at hown
     have hkl : k = (r.map fun p => (fun l : List Int => idxL (N : Int) l) p.l).length := by rw [List.length_map]; omega
     have hll : 0 < (r.map fun p => (fun l : List Int => idxL (N : Int) l) p.l).length ∧ (r.map fun p => (fun l : List Int => idxL (N : Int) l) p.l).length ≤ 100000 := by rw [List.length_map]; omega
     rw [hkl] at hown
     have HLS2 : Hid (listedL (r.map fun p => (fun l : List Int => idxL (N : Int) l) p.l) = numbersB b E (N : Int)) := by unfold Hid numbersB; rw [HLS.out]
     clear HLS
     generalize (r.map fun p => (fun l : List Int => idxL (N : Int) l) p.l) = L at hown hkl hll HLS2
     have HIN := Lib.hid (IntsAt.of_owns hown)
     have HLI := Lib.hid (fun v hv => listed_any v L wr hv hll.1 hll.2)
     obtain ⟨_, _, rfl, _⟩ := HIN.out.open
     have HX := Lib.hid hx
     have HM := Lib.hid (HLI.out _ HIN.out)
     rw [HLS2.out] at HM
     clear hown hx HLI hkl hke y4 y5 hll
     go_wp2_with (go_at_call 44; refine HM.out.mono ?_; rintro e w2 ⟨u, rfl, hx2, hu⟩)
     go_ret2
     exact HR.out _ _ ((HXW.out.trans HX.out).trans hx2) hu
  ·have hz0 : (askErr b (fe && fn) == 0) = false := by simpa using hz
   have hR : ∀ w', Ext w w' → NumsRes b (fe && fn) (numbersB b e.toNat n) w (.returned (.tuple #[.slice none 0 0, .int .i64 (askErr b (fe && fn))])) w' := fun w' h => ⟨h, .inl ⟨hz, rfl⟩⟩
   have HR := Lib.hid hR
   clear hR hz hopn
   generalize askErr b (fe && fn) = z at *
   go_wp2
   go_ret2
   exact HR.out _ HXW.out
 | _ => exact h.elim
end Go.Proofs.YtokananogogjaaaGreatDoor
