/- The search of the lists of lists of houses: a node. -/
import Derived.Test.YtbeophjdiddomaaGreatDoorPartsb
import Derived.Deep.RegionHeld3
import Derived.LoopNIn
import Derived.RangeFuncBound
import Derived.RangeFuncCalls
import Derived.OwnWalkIn
import Derived.TacticsInMore
import Derived.Laws.EntriesVeiled
namespace Go.Proofs.YtbeophjdiddomaaGreatDoor
open Go.RowKit

/-- What a list of lists leads to at place i. -/
def partAt (c : Roads) (f : Nat) (now : List (List Int)) (h : Int) (i : Nat) : List (List (List Int)) := if c.bears < loadOf c ((nextAt now i h).getD i []) then [] else partsFrom c f (nextAt now i h) (h + 1)
def partCnt (c : Roads) (f : Nat) (now : List (List Int)) (h : Int) (i : Nat) : Nat := ((List.range i).flatMap (partAt c f now h)).length
theorem partCnt_succ (c : Roads) (f : Nat) (now : List (List Int)) (h : Int) (i : Nat) : partCnt c f now h (i + 1) = partCnt c f now h i + (partAt c f now h i).length := by
  unfold partCnt; rw [List.range_succ]; simp only [List.flatMap_append, List.flatMap_cons, List.flatMap_nil, List.append_nil, List.length_append]
theorem partCnt_all (c : Roads) (f : Nat) (now : List (List Int)) (h : Int) : partCnt c f now h (now.length + 1) = (partsFrom c (f + 1) now h).length := rfl
theorem part_split {c : Roads} {f : Nat} {now : List (List Int)} {h : Int} {i : Nat} (hi : i ≤ now.length) : ∃ p s, partsFrom c (f + 1) now h = p ++ partAt c f now h i ++ s ∧ p.length = partCnt c f now h i := by
  refine ⟨((List.range (now.length + 1)).take i).flatMap (partAt c f now h), ((List.range (now.length + 1)).drop (i + 1)).flatMap (partAt c f now h), ?_, ?_⟩
  · have := flatMap_split (partAt c f now h) (hs := List.range (now.length + 1)) (i := i) (by simp; omega)
    rw [List.getElem_range] at this
    exact this
  · simp [partCnt, List.take_range, Nat.min_eq_left (by omega : i ≤ now.length + 1)]

/-- What holds of the lists while the houses up to m have been dealt. -/
structure PartOk (c : Roads) (now : List (List Int)) (m : Nat) : Prop where
  len : now.length ≤ m
  one : ∀ l, l ∈ now → l.length ≤ m ∧ ∀ n, n ∈ l → 1 ≤ n ∧ n ≤ c.loads.length
theorem PartOk.getD {c : Roads} {now : List (List Int)} {m : Nat} (h : PartOk c now m) (i : Nat) : (now.getD i []).length ≤ m ∧ ∀ n, n ∈ now.getD i [] → 1 ≤ n ∧ n ≤ c.loads.length := by
  by_cases hi : i < now.length
  · have := h.one now[i] (List.getElem_mem hi); simpa [List.getD, hi] using this
  · simp [List.getD, Nat.not_lt.1 hi]
theorem PartOk.next {c : Roads} {now : List (List Int)} {m i : Nat} {h : Int} (ho : PartOk c now m) (hi : i ≤ now.length) (h1 : 1 ≤ h) (h2 : h ≤ c.loads.length) : PartOk c (nextAt now i h) (m + 1) := by
  have hg := ho.getD i
  by_cases hl : i < now.length
  · rw [nextAt_lt hl]
    refine ⟨by simp; have := ho.len; omega, fun l hl' => ?_⟩
    rcases List.mem_or_eq_of_mem_set hl' with h' | rfl
    · exact ⟨by have := (ho.one l h').1; omega, (ho.one l h').2⟩
    · refine ⟨by simp; exact hg.1, fun n hn => ?_⟩
      rcases List.mem_append.1 hn with h' | h'
      · exact hg.2 n h'
      · rw [List.mem_singleton.1 h']; exact ⟨h1, h2⟩
  · have : i = now.length := by omega
    subst this
    rw [nextAt_end]
    refine ⟨by simp; exact ho.len, fun l hl' => ?_⟩
    rcases List.mem_append.1 hl' with h' | h'
    · exact ⟨by have := (ho.one l h').1; omega, (ho.one l h').2⟩
    · rw [List.mem_singleton.1 h']; simp; exact ⟨h1, h2⟩

theorem owns_cap {W : World} {base : Nat} {e : TypeId} {size g n cap : Nat} {xs : List Value} (h : W.ownsRow base e size (.slice (some ⟨g, 0, none⟩) (n + 1) cap) (n + 1) xs) : n ≤ cap ∧ (n : Int) ≤ (cap : Int) ∧ cap ≤ 9223372036854775807 := by
  obtain ⟨_, _, hv, h1, h2, _⟩ := RowAt.of_owns h
  cases hv
  exact ⟨by omega, by omega, h2⟩

set_option maxRecDepth 100000 in
set_option maxHeartbeats 8000000 in
theorem part_node (c : Roads) (w0 : World) (yb cb sb l : Nat) (lv fv nowv : Value) (now : List (List Int)) (h : Int) (m f : Nat) (A : World) (M : Nat → Prop) (J : Nat → World → Prop) (Jx : World → Prop) (k B0 : Nat)
    (hB : RoadsB c) (hR : RoadsAt w0 (.agg #[lv, .int .i64 c.bears, fv]) c) (hE : PartEnv c w0 yb cb sb l lv fv A) (hN : RowsOff (· < B0) A nowv now) (h1 : 1 ≤ h) (h2 : h ≤ c.loads.length) (hm5 : m ≤ 5) (hok : PartOk c now m) (hAB : B0 ≤ A.heap.size)
    (hJ : ∀ k, Stable B0 (J k)) (hM : ∀ i, M i → w0.heap.size ≤ i ∧ i < B0) (m2 : ¬ M yb) (m3 : ¬ M cb) (m4 : ¬ M sb)
    (ih : ∀ j nowv' A' k', j ≤ now.length → ¬ c.bears < loadOf c ((nextAt now j h).getD j []) → RowsOff (· < B0) A' nowv' (nextAt now j h) → PartEnv c w0 yb cb sb l lv fv A' → J k' A' → B0 ≤ A'.heap.size → k' = k + partCnt c f now h j →
      Calls Tryz.prog 125 #[nowv', .int .i64 (h + 1), .pointer (some ⟨cb, 0, none⟩), .pointer (some ⟨yb, 0, none⟩), .pointer (some ⟨sb, 0, none⟩)] A' (OrdPost M J Jx k' (partsFrom c f (nextAt now j h) (h + 1)).length A'))
    (h0 : J k A) :
    Calls Tryz.prog 125 #[nowv, .int .i64 h, .pointer (some ⟨cb, 0, none⟩), .pointer (some ⟨yb, 0, none⟩), .pointer (some ⟨sb, 0, none⟩)] A (OrdPost M J Jx k (partsFrom c (f + 1) now h).length A) := by
  have hR' := hR
  obtain ⟨lv', fv', hv0, hlv, hfv⟩ := hR'
  cases hv0
  obtain ⟨la, lk, rfl, _⟩ := hlv.open
  obtain ⟨fa, fk, rfl, _⟩ := hfv.open
  obtain ⟨a, n, rfl, g1, g2, _⟩ := hN.rows.open
  have e2 := hE.y
  have e3 := hE.c0
  have t1 : decide ((c.loads.length : Int) < h) = false := by simpa using h2
  have hl5 : now.length ≤ 5 := Nat.le_trans hok.len hm5
  have n5 := hB.n2
  have HJ := Lib.hid hJ
  have HI := Lib.hid ih
  have HM := Lib.hid hM
  have hmix : Tryz.prog.follows .mixedOrders = true := by kernel_rfl
  clear hJ ih hM hlv hfv
  go_enter Tryz.func125, Tryz.ntmps125
  go_wp2
  go_step3
  go_wp2
  go_step3
  go_wp2
  go_loopw [21] (fun i wr => ∃ (j : Nat), j ≤ now.length + 1 ∧ i = .int .i64 j ∧ J (k + partCnt c f now h j) wr ∧ Touch M A wr) (fun i _ => now.length + 1 - (intOf i).toNat)
  case atStart => exact ⟨0, Nat.zero_le _, rfl, by simpa [partCnt] using h0, Touch.refl _ _⟩
  case round =>
    obtain ⟨j, hj, rfl, hJw, ht⟩ := hrel
    have hEw := hE.touch ht (fun i hi => (HM.out i hi).1) m2 m3 m4
    have hNw := hN.touch (ht.mono (fun i hi => (HM.out i hi).2))
    by_cases hlt : j < now.length + 1
    · obtain ⟨vs, hv1, hv2, hv3, hv4⟩ := hNw
      have hone := RowsOff.one hv1 hv4
      have hcl : Calls Tryz.prog 126 #[.slice a now.length n] wr fun e w' => ∃ v, e = .returned v ∧ w'.ownsRow wr.heap.size 33 1 v now.length vs ∧ Ext wr w' := by
        have := clone_rows (.slice a now.length n) vs wr (by rw [hv1]; exact hv2) hone (by omega)
        exact this.mono fun e w' ⟨v, q1, q2, q3⟩ => ⟨v, q1, by rw [hv1] at q2; exact q2, q3⟩
      have hxe : ∃ ax kx, (vs ++ [Value.slice none 0 0])[j]? = some (.slice ax (now.getD j []).length kx) ∧ IntsOff (· < B0) wr (.slice ax (now.getD j []).length kx) (now.getD j []) := by
        by_cases hjl : j < now.length
        · have h4 := hv4 j vs[j] now[j] (by simp) (by simp)
          have hd : now.getD j [] = now[j] := by simp [List.getD, hjl]
          obtain ⟨ax, kx, hx, _⟩ := h4.1.open
          rw [hd]
          exact ⟨ax, kx, by rw [List.getElem?_append_left (by omega), ← hx]; simp, by rw [← hx]; exact h4⟩
        · have hd : now.getD j [] = [] := by simp [List.getD, Nat.not_lt.1 hjl]
          rw [hd]
          exact ⟨none, 0, by rw [List.getElem?_append_right (by omega)]; simp [show j - vs.length = 0 by omega], IntsOff.nil _ _⟩
      obtain ⟨ax, kx, hxj, hxo⟩ := hxe
      have hgd := hok.getD j
      generalize hls : now.getD j [] = ls at hxj hxo hgd
      have HLS : Hid (now.getD j [] = ls) := hls
      clear hls
      have HXJ : Hid ((vs ++ [Value.slice none 0 0])[j]? = some (.slice ax ls.length kx)) := hxj
      have hsz : now.length + 1 ≤ maxLen ∧ (now.length + 1) * 24 ≤ 140737488355328 ∧ ls.length + 1 ≤ maxLen ∧ (ls.length + 1) * 8 ≤ 140737488355328 := by have := hgd.1; unfold maxLen; omega
      have HSZ := Lib.hid hsz
      have HCl := Lib.hid hcl
      have HC2 := Lib.hid (fun w1 (hx : Ext wr w1) => clone_any (.slice ax ls.length kx) ls w1 (hxo.1.ext hx) (by have := hgd.1; omega))
      have HGD := Lib.hid hgd
      clear hcl hsz hone hxj hgd
      have hxj := HXJ
      by_cases hjl : j < now.length
      · go_upto_region 10 with (first
          | (go_at_call 126; refine HCl.out.mono ?_; rintro e w1 ⟨v1', rfl, hown1, hx1⟩)
          | (go_at_call 78; refine (HC2.out w2 hxr2).mono ?_; rintro e w3 ⟨v3', rfl, hown3, hx3⟩)
          | (at_builtin; refine wpList_push E_rows rfl _ _ rfl wr.heap.size rfl hown1 rfl rfl (by simp [Value.oneCell']) ?_ HSZ.out.1 HSZ.out.2.1 hx1.size; intro g cap w2 hown2 hext2 _; have hxr2 := hext2 wr hx1 (Nat.le_refl _); have q2 := (hown2.cellAt j (by omega)).trans hxj.out; obtain ⟨hcap, hcap2, hcap3⟩ := owns_cap hown2)
          | (at_builtin; refine wpList_push E_ints rfl _ _ rfl w2.heap.size rfl hown3 rfl rfl (by simp [Value.oneCell']) ?_ HSZ.out.2.2.1 HSZ.out.2.2.2 hx3.size; intro g2 cap2 w4 hown4 hext4 _; have hx24 := hext4 w2 hx3 (Nat.le_refl _); have q4 := hx24.cell q2; have f4 := (owns_ext hown2 hx24).frozenAt j))
        have hgw : wr.heap.size ≤ g := owns_block hown2 g rfl
        have hgl : g < w2.heap.size := (World.ownsRow.lt hown2 g rfl).2
        have hW5 := ((hxr2.trans hx24).setCell (p := ⟨g, j, none⟩) hgw (.slice (some ⟨g2, 0, none⟩) (ls.length + 1) cap2))
        have q5 := World.cell?_setCell_same (w := w4) (a := ⟨g, j, none⟩) (v := .slice (some ⟨g2, 0, none⟩) (ls.length + 1) cap2) q4
        have hown5 := ((owns_ext hown2 hx24).stored j (.slice (some ⟨g2, 0, none⟩) (ls.length + 1) cap2)).1
        have hV5 := ((row_push (B0 := w2.heap.size) (Nat.le_refl _) hown4).touch (Touch.setCell (a := ⟨g, j, none⟩) (.slice (some ⟨g2, 0, none⟩) (ls.length + 1) cap2) hgl)).less (N := (· < B0)) (fun i hi => by have := ht.size; have := hxr2.size; exact (show i < w2.heap.size by (have h3 : i < B0 := hi); omega))
        have hrows := rows_next (B0 := B0) (by have := ht.size; omega) hv1 (by omega) hown5 (fun i x xs hx hxs => (hv4 i x xs hx hxs).touch (Touch.of_ext hW5)) (by rw [HLS.out]; exact hV5)
        rw [if_pos hjl] at hrows
        have HRO := Lib.hid hrows
        have c0w := hW5.cell hEw.c0
        have c1w := hW5.cell hEw.c1
        have c2w := hW5.cell hEw.c2
        have hstop : ∀ x, x ∈ ls ++ [h] → 1 ≤ x ∧ x ≤ c.loads.length := fun x hx => by
          rcases List.mem_append.1 hx with h' | h'
          · exact HGD.out.2 x h'
          · rw [List.mem_singleton.1 h']; exact ⟨h1, h2⟩
        generalize hw5 : w4.setCell ⟨g, j, none⟩ (.slice (some ⟨g2, 0, none⟩) (ls.length + 1) cap2) = W5 at hW5 q5 hown5 hV5 hrows HRO c0w c1w c2w ⊢
        have HLO := Lib.hid (fun w1 (hx : Ext W5 w1) => loads_any _ _ c (ls ++ [h]) w1 hB (hR.ext (hEw.ext.trans (hW5.trans hx))) (hV5.1.ext hx) hstop (by have := HGD.out.1; simp; omega))
        have HNG := Lib.hid (nextAt_getD (h := h) (show j ≤ now.length by omega))
        clear hrows hV5 hown5 hw5 hstop HCl HC2 hv2 hv3 hv4 hxo HXJ hxj hown1 hown2 hown3 hown4 hext2 hext4 q2 q4 f4
        by_cases hv : c.bears < loadOf c (ls ++ [h])
        · have hdv : decide (c.bears < loadOf c (ls ++ [h])) = true := by simpa using hv
          have hpa : (partAt c f now h j).length = 0 := by unfold partAt; rw [HNG.out, HLS.out, if_pos hv]; rfl
          go_region_held3 (fun w' => w'.cell? ⟨cb, 0, none⟩ = some (.slice la c.loads.length lk) ∧ w'.cell? ⟨cb, 1, none⟩ = some (.int .i64 c.bears) ∧ w'.cell? ⟨cb, 2, none⟩ = some (.slice fa c.far.length fk) ∧ w'.cell? ⟨g, j, none⟩ = some (.slice (some ⟨g2, 0, none⟩) (ls.length + 1) cap2)) (go_keep)
            (first | (go_at_call 127; refine (HLO.out _ ((Ext.refl W5).drew)).mono ?_; rintro e w6 ⟨rfl, hx6⟩; have d0 := hx6.cell (a := ⟨cb, 0, none⟩) c0w; have d1 := hx6.cell (a := ⟨cb, 1, none⟩) c1w; have d2 := hx6.cell (a := ⟨cb, 2, none⟩) c2w; have d3 := hx6.cell (a := ⟨g, j, none⟩) q5))
          go_wp2
          have hx7 := hW5.trans (((Ext.refl W5).drew).trans hx6)
          go_roundw
          case rel => exact ⟨j + 1, by omega, by go_num, by rw [partCnt_succ, hpa, Nat.add_zero]; exact (HJ.out _).out' hJw hx7, ht.trans (Touch.of_ext hx7)⟩
          case measure => simp [intOf]; omega
        · have hdv : decide (c.bears < loadOf c (ls ++ [h])) = false := by simpa using hv
          have hpa : (partAt c f now h j).length = (partsFrom c f (nextAt now j h) (h + 1)).length := by unfold partAt; rw [HNG.out, HLS.out, if_neg hv]
          go_region_held3 (fun w' => w'.cell? ⟨cb, 0, none⟩ = some (.slice la c.loads.length lk) ∧ w'.cell? ⟨cb, 1, none⟩ = some (.int .i64 c.bears) ∧ w'.cell? ⟨cb, 2, none⟩ = some (.slice fa c.far.length fk) ∧ w'.cell? ⟨g, j, none⟩ = some (.slice (some ⟨g2, 0, none⟩) (ls.length + 1) cap2)) (go_keep)
            (first | (go_at_call 127; refine (HLO.out _ ((Ext.refl W5).drew)).mono ?_; rintro e w6 ⟨rfl, hx6⟩; have d0 := hx6.cell (a := ⟨cb, 0, none⟩) c0w; have d1 := hx6.cell (a := ⟨cb, 1, none⟩) c1w; have d2 := hx6.cell (a := ⟨cb, 2, none⟩) c2w; have d3 := hx6.cell (a := ⟨g, j, none⟩) q5))
          have hx7 := hW5.trans (((Ext.refl W5).drew).trans hx6)
          have hT := ht.trans (Touch.of_ext hx7)
          have hrec := HI.out j _ w6 _ (by omega) (by rw [HNG.out, HLS.out]; exact hv) (HRO.out.touch (Touch.of_ext (((Ext.refl W5).drew).trans hx6))) (hE.touch hT (fun i hi => (HM.out i hi).1) m2 m3 m4) ((HJ.out _).out' hJw hx7) (Nat.le_trans hAB hT.size) rfl
          have hs6 := hx7.cell hEw.s
          have HRC := Lib.hid hrec
          clear hrec HI HRO
          go_wp2_with (go_at_call 125; refine HRC.out.mono ?_; rintro e w8 ⟨b', rfl, ht8, hj8, hx8⟩)
          all_goals first
            | (refine ⟨⟨j + 1, by omega, by go_num, by rw [partCnt_succ, hpa, ← Nat.add_assoc]; exact hj8 (by first | assumption | (cases b' <;> simp_all)), hT.trans ht8⟩, by simp [intOf]; omega⟩)
            | (rw [Exit.noGoto_ret]; go_ret; refine ⟨false, rfl, hT.trans ht8, (fun h => by cases h), fun _ => hx8 ?_⟩; first | assumption | (cases b' <;> simp_all))
      · go_upto_region 10 with (first
          | (go_at_call 126; refine HCl.out.mono ?_; rintro e w1 ⟨v1', rfl, hown1, hx1⟩)
          | (go_at_call 78; refine (HC2.out w2 hxr2).mono ?_; rintro e w3 ⟨v3', rfl, hown3, hx3⟩)
          | (at_builtin; refine wpList_push E_rows rfl _ _ rfl wr.heap.size rfl hown1 rfl rfl (by simp [Value.oneCell']) ?_ HSZ.out.1 HSZ.out.2.1 hx1.size; intro g cap w2 hown2 hext2 _; have hxr2 := hext2 wr hx1 (Nat.le_refl _); have q2 := (hown2.cellAt j (by omega)).trans hxj.out; obtain ⟨hcap, hcap2, hcap3⟩ := owns_cap hown2)
          | (at_builtin; refine wpList_push E_ints rfl _ _ rfl w2.heap.size rfl hown3 rfl rfl (by simp [Value.oneCell']) ?_ HSZ.out.2.2.1 HSZ.out.2.2.2 hx3.size; intro g2 cap2 w4 hown4 hext4 _; have hx24 := hext4 w2 hx3 (Nat.le_refl _); have q4 := hx24.cell q2; have f4 := (owns_ext hown2 hx24).frozenAt j))
        have hgw : wr.heap.size ≤ g := owns_block hown2 g rfl
        have hgl : g < w2.heap.size := (World.ownsRow.lt hown2 g rfl).2
        have hW5 := ((hxr2.trans hx24).setCell (p := ⟨g, j, none⟩) hgw (.slice (some ⟨g2, 0, none⟩) (ls.length + 1) cap2))
        have q5 := World.cell?_setCell_same (w := w4) (a := ⟨g, j, none⟩) (v := .slice (some ⟨g2, 0, none⟩) (ls.length + 1) cap2) q4
        have hown5 := ((owns_ext hown2 hx24).stored j (.slice (some ⟨g2, 0, none⟩) (ls.length + 1) cap2)).1
        have hV5 := ((row_push (B0 := w2.heap.size) (Nat.le_refl _) hown4).touch (Touch.setCell (a := ⟨g, j, none⟩) (.slice (some ⟨g2, 0, none⟩) (ls.length + 1) cap2) hgl)).less (N := (· < B0)) (fun i hi => by have := ht.size; have := hxr2.size; exact (show i < w2.heap.size by (have h3 : i < B0 := hi); omega))
        have hrows := rows_next (B0 := B0) (by have := ht.size; omega) hv1 (by omega) hown5 (fun i x xs hx hxs => (hv4 i x xs hx hxs).touch (Touch.of_ext hW5)) (by rw [HLS.out]; exact hV5)
        rw [if_neg hjl] at hrows
        have HRO := Lib.hid hrows
        have c0w := hW5.cell hEw.c0
        have c1w := hW5.cell hEw.c1
        have c2w := hW5.cell hEw.c2
        have hstop : ∀ x, x ∈ ls ++ [h] → 1 ≤ x ∧ x ≤ c.loads.length := fun x hx => by
          rcases List.mem_append.1 hx with h' | h'
          · exact HGD.out.2 x h'
          · rw [List.mem_singleton.1 h']; exact ⟨h1, h2⟩
        generalize hw5 : w4.setCell ⟨g, j, none⟩ (.slice (some ⟨g2, 0, none⟩) (ls.length + 1) cap2) = W5 at hW5 q5 hown5 hV5 hrows HRO c0w c1w c2w ⊢
        have HLO := Lib.hid (fun w1 (hx : Ext W5 w1) => loads_any _ _ c (ls ++ [h]) w1 hB (hR.ext (hEw.ext.trans (hW5.trans hx))) (hV5.1.ext hx) hstop (by have := HGD.out.1; simp; omega))
        have HNG := Lib.hid (nextAt_getD (h := h) (show j ≤ now.length by omega))
        clear hrows hV5 hown5 hw5 hstop HCl HC2 hv2 hv3 hv4 hxo HXJ hxj hown1 hown2 hown3 hown4 hext2 hext4 q2 q4 f4
        by_cases hv : c.bears < loadOf c (ls ++ [h])
        · have hdv : decide (c.bears < loadOf c (ls ++ [h])) = true := by simpa using hv
          have hpa : (partAt c f now h j).length = 0 := by unfold partAt; rw [HNG.out, HLS.out, if_pos hv]; rfl
          go_region_held3 (fun w' => w'.cell? ⟨cb, 0, none⟩ = some (.slice la c.loads.length lk) ∧ w'.cell? ⟨cb, 1, none⟩ = some (.int .i64 c.bears) ∧ w'.cell? ⟨cb, 2, none⟩ = some (.slice fa c.far.length fk) ∧ w'.cell? ⟨g, j, none⟩ = some (.slice (some ⟨g2, 0, none⟩) (ls.length + 1) cap2)) (go_keep)
            (first | (go_at_call 127; refine (HLO.out _ ((Ext.refl W5).drew)).mono ?_; rintro e w6 ⟨rfl, hx6⟩; have d0 := hx6.cell (a := ⟨cb, 0, none⟩) c0w; have d1 := hx6.cell (a := ⟨cb, 1, none⟩) c1w; have d2 := hx6.cell (a := ⟨cb, 2, none⟩) c2w; have d3 := hx6.cell (a := ⟨g, j, none⟩) q5))
          go_wp2
          have hx7 := hW5.trans (((Ext.refl W5).drew).trans hx6)
          go_roundw
          case rel => exact ⟨j + 1, by omega, by go_num, by rw [partCnt_succ, hpa, Nat.add_zero]; exact (HJ.out _).out' hJw hx7, ht.trans (Touch.of_ext hx7)⟩
          case measure => simp [intOf]; omega
        · have hdv : decide (c.bears < loadOf c (ls ++ [h])) = false := by simpa using hv
          have hpa : (partAt c f now h j).length = (partsFrom c f (nextAt now j h) (h + 1)).length := by unfold partAt; rw [HNG.out, HLS.out, if_neg hv]
          go_region_held3 (fun w' => w'.cell? ⟨cb, 0, none⟩ = some (.slice la c.loads.length lk) ∧ w'.cell? ⟨cb, 1, none⟩ = some (.int .i64 c.bears) ∧ w'.cell? ⟨cb, 2, none⟩ = some (.slice fa c.far.length fk) ∧ w'.cell? ⟨g, j, none⟩ = some (.slice (some ⟨g2, 0, none⟩) (ls.length + 1) cap2)) (go_keep)
            (first | (go_at_call 127; refine (HLO.out _ ((Ext.refl W5).drew)).mono ?_; rintro e w6 ⟨rfl, hx6⟩; have d0 := hx6.cell (a := ⟨cb, 0, none⟩) c0w; have d1 := hx6.cell (a := ⟨cb, 1, none⟩) c1w; have d2 := hx6.cell (a := ⟨cb, 2, none⟩) c2w; have d3 := hx6.cell (a := ⟨g, j, none⟩) q5))
          have hx7 := hW5.trans (((Ext.refl W5).drew).trans hx6)
          have hT := ht.trans (Touch.of_ext hx7)
          have hrec := HI.out j _ w6 _ (by omega) (by rw [HNG.out, HLS.out]; exact hv) (HRO.out.touch (Touch.of_ext (((Ext.refl W5).drew).trans hx6))) (hE.touch hT (fun i hi => (HM.out i hi).1) m2 m3 m4) ((HJ.out _).out' hJw hx7) (Nat.le_trans hAB hT.size) rfl
          have hs6 := hx7.cell hEw.s
          have HRC := Lib.hid hrec
          clear hrec HI HRO
          go_wp2_with (go_at_call 125; refine HRC.out.mono ?_; rintro e w8 ⟨b', rfl, ht8, hj8, hx8⟩)
          all_goals first
            | (refine ⟨⟨j + 1, by omega, by go_num, by rw [partCnt_succ, hpa, ← Nat.add_assoc]; exact hj8 (by first | assumption | (cases b' <;> simp_all)), hT.trans ht8⟩, by simp [intOf]; omega⟩)
            | (rw [Exit.noGoto_ret]; go_ret; refine ⟨false, rfl, hT.trans ht8, (fun h => by cases h), fun _ => hx8 ?_⟩; first | assumption | (cases b' <;> simp_all))
    · have hje : j = now.length + 1 := by omega
      have hfin : OrdPost M J Jx k (partsFrom c (f + 1) now h).length A (.returned (.bool true)) wr := ⟨true, rfl, ht, fun _ => by rw [← partCnt_all, ← hje]; exact hJw, fun h => by cases h⟩
      have HF := Lib.hid hfin
      clear hfin
      go_wp2
      rw [Exit.noGoto_ret]
      go_ret
      exact HF.out
end Go.Proofs.YtbeophjdiddomaaGreatDoor

/- The iterator over the lists of lists of houses. -/
namespace Go.Proofs.YtbeophjdiddomaaGreatDoor
open Go.RowKit

theorem part_all (c : Roads) (w0 : World) (yb cb sb l : Nat) (lv fv : Value) (M : Nat → Prop) (J : Nat → World → Prop) (Jx : World → Prop) (B0 : Nat) (XS : List (List (List Int)))
    (hB : RoadsB c) (hR : RoadsAt w0 (.agg #[lv, .int .i64 c.bears, fv]) c) (hJ : ∀ k, Stable B0 (J k))
    (hM : ∀ i, M i → w0.heap.size ≤ i ∧ i < B0) (m2 : ¬ M yb) (m3 : ¬ M cb) (m4 : ¬ M sb)
    (hY : ∀ i x v A1, XS[i]? = some x → J i A1 → RowsOff (· < B0) A1 v x → B0 ≤ A1.heap.size → YieldAt Fence.wide 0 Tryz.prog l #[v] A1 (YRes M (J (i + 1)) Jx A1)) :
    ∀ f now nowv (h : Int) (m : Nat) A k, h = (m : Int) + 1 → m + f = c.loads.length → PartOk c now m → RowsOff (· < B0) A nowv now → PartEnv c w0 yb cb sb l lv fv A → B0 ≤ A.heap.size → J k A →
      (∃ p s, XS = p ++ partsFrom c f now h ++ s ∧ p.length = k) →
      Calls Tryz.prog 125 #[nowv, .int .i64 h, .pointer (some ⟨cb, 0, none⟩), .pointer (some ⟨yb, 0, none⟩), .pointer (some ⟨sb, 0, none⟩)] A (OrdPost M J Jx k (partsFrom c f now h).length A) := by
  intro f
  induction f with
  | zero =>
    intro now nowv h m A k hh hmf hok hN hE hAB h0 ⟨p, s, hXS, hp⟩
    have hx : XS[k]? = some now := by
      rw [hXS, ← hp, show partsFrom c 0 now h = [now] from rfl]; simp
    have hlv : ∃ a n, lv = .slice a c.loads.length n := by
      obtain ⟨lv', fv', e, h1, _⟩ := hR
      cases e
      obtain ⟨a, n, h2, _⟩ := h1.open
      exact ⟨a, n, h2⟩
    refine callsIn_wide.1 (part_leaf c w0 yb cb sb l lv fv nowv now h A M J Jx k B0 hlv hE hN (by omega) hAB ?_ h0)
    exact fun v A1 hj ht hs => hY k now v A1 hx hj ht hs
  | succ f ih =>
    intro now nowv h m A k hh hmf hok hN hE hAB h0 ⟨p, s, hXS, hp⟩
    have n5 := hB.n2
    refine part_node c w0 yb cb sb l lv fv nowv now h m f A M J Jx k B0 hB hR hE hN (by omega) (by omega) (by omega) hok hAB hJ hM m2 m3 m4 ?_ h0
    intro j nowv' A' k' hj hv hN' hE' hJ' hA' hk'
    obtain ⟨p', s', h1, h2⟩ := part_split (c := c) (f := f) (h := h) hj
    have hpa : partAt c f now h j = partsFrom c f (nextAt now j h) (h + 1) := by unfold partAt; rw [if_neg hv]
    rw [hpa] at h1
    refine ih (nextAt now j h) nowv' (h + 1) (m + 1) A' k' (by omega) (by omega) (hok.next hj (by omega) (by omega)) hN' hE' hA' hJ' ⟨p ++ p', s' ++ s, ?_, by simp; omega⟩
    rw [hXS, h1]; simp only [List.append_assoc]

set_option maxRecDepth 100000 in
set_option maxHeartbeats 2000000 in
theorem parts_iter (c : Roads) (w0 W : World) (cb : Nat) (lv fv : Value) (M : Nat → Prop)
    (hB : RoadsB c) (hR : RoadsAt w0 (.agg #[lv, .int .i64 c.bears, fv]) c)
    (hM : ∀ i, M i → w0.heap.size ≤ i ∧ i < W.heap.size) (m3 : ¬ M cb) (hx : Ext w0 W)
    (c0 : W.cell? ⟨cb, 0, none⟩ = some lv) (c1 : W.cell? ⟨cb, 1, none⟩ = some (.int .i64 c.bears)) (c2 : W.cell? ⟨cb, 2, none⟩ = some fv) :
    Iter Tryz.prog 124 #[.pointer (some ⟨cb, 0, none⟩)] (fun A x v => RowsOff (· < W.heap.size) A v x) (partsOf c) M W := by
  intro l J Jx hJ hJx hY h0
  have hmix : Tryz.prog.follows .mixedOrders = true := by kernel_rfl
  have HA := Lib.hid (part_all c w0 W.heap.size cb (W.heap.size + 1) l lv fv M J Jx W.heap.size (partsOf c) hB hR hJ hM (fun h => by have := (hM _ h).2; omega) m3 (fun h => by have := (hM _ h).2; omega)
    (fun i x v A1 hx hj ht hs => hY i x v A1 hj hx ht hs))
  have HJ := Lib.hid hJ
  clear hY hJ
  refine callsIn_of_wp Tryz.func124 rfl trivial ?_ rfl
  simp only [Tryz.ntmps124, List.size_toArray, List.length_cons, List.length_nil, Nat.reduceAdd, Nat.reduceSub, Array.replicate_succ, Array.replicate_zero, List.push_toArray, List.append_toArray, List.nil_append, List.cons_append]
  gi_wp2
  refine (wide_of (HA.out c.loads.length [] _ 1 0 _ 0 (by simp) (by simp) ⟨by simp, fun l hl => by simp at hl⟩ (RowsOff.nil _ _) ⟨hx.trans (((Ext.refl W).alloc _).alloc _), by go_simp, (((Ext.refl W).alloc _).alloc _).cell c0, (((Ext.refl W).alloc _).alloc _).cell c1, (((Ext.refl W).alloc _).alloc _).cell c2, by go_simp⟩ (((Ext.refl W).alloc _).alloc _).size ((HJ.out 0).out' h0 (((Ext.refl W).alloc _).alloc _)) ⟨[], [], by simp [partsOf], rfl⟩)).mono ?_
  rintro e w1 ⟨b, rfl, ht, hj, hjx⟩
  gi_wp2
  go_end0
  refine ⟨⟨_, rfl⟩, ?_⟩
  cases b
  · exact .inr (hjx rfl)
  · exact .inl (by have := hj rfl; rwa [Nat.zero_add] at this)
end Go.Proofs.YtbeophjdiddomaaGreatDoor
