/- The law CardTours: the walk. -/
import Derived.Test.YtpheidlocijdkaaGreatDoorRtour
import Derived.Test.YtpheidlocijdkaaGreatDoorTourh
import Derived.Test.YtpheidlocijdkaaGreatDoorOpened
namespace Go.Proofs.YtpheidlocijdkaaGreatDoor
open Go.RowKit

theorem stops_parts {c : Roads} {l : List Int} : badStops c l = !(someB c l && risingB l) := by
  cases h : someB c l && risingB l with
  | true =>
    rw [Bool.and_eq_true] at h
    obtain ⟨h1, h2⟩ := h
    refine badStops_none (fun i hi => ?_)
    unfold badAt
    have hm : l.getD i 0 ∈ l := by rw [List.getD_eq_getElem?_getD, List.getElem?_eq_getElem hi]; exact List.getElem_mem hi
    rw [show isStopB c (l.getD i 0) = true from List.all_eq_true.1 h1 _ hm]
    cases i with
    | zero => simp
    | succ i =>
      unfold risingB at h2
      rw [Bool.not_eq_true', List.any_eq_false] at h2
      have h3 := h2 i (List.mem_range.2 (by omega))
      unfold riseAt at h3
      simp only [decide_eq_true_eq] at h3
      simp only [Nat.add_sub_cancel, Bool.not_true, Bool.false_or, Bool.and_eq_false_iff, decide_eq_false_iff_not]
      exact .inr h3
  | false =>
    rw [Bool.and_eq_false_iff] at h
    rcases h with h | h
    · unfold someB at h
      rw [List.all_eq_false] at h
      obtain ⟨x, hx, hp⟩ := h
      obtain ⟨i, hi, rfl⟩ := List.mem_iff_getElem.1 hx
      refine badStops_of hi ?_
      unfold badAt
      rw [List.getD_eq_getElem?_getD, List.getElem?_eq_getElem hi]
      simp only [Option.getD_some]
      simp [hp]
    · unfold risingB at h
      rw [Bool.not_eq_false', List.any_eq_true] at h
      obtain ⟨i, hi, hp⟩ := h
      have hil := List.mem_range.1 hi
      refine badStops_of (i := i + 1) (by omega) ?_
      unfold badAt riseAt at *
      simp only [decide_eq_true_eq] at hp
      rw [Bool.or_eq_true, Bool.and_eq_true, decide_eq_true_eq, decide_eq_true_eq, Nat.add_sub_cancel]
      exact .inr ⟨by omega, hp⟩
theorem refTour_mem {c : Roads} {l : List Int} : refTour c l ∈ refO l.length l := by
  have hne : refO l.length l ≠ [] := by
    intro e
    have h1 := refO_len l.length l rfl
    rw [e] at h1
    have h2 : 0 < facN l.length := by
      generalize l.length = n
      induction n with
      | zero => decide
      | succ n ih => unfold facN; exact Nat.mul_pos (by omega) ih
    simp at h1
    omega
  have := bestUp_mem (c := c) hne (refO l.length l).length
  rwa [bestUp_all c l (Nat.le_refl _)] at this
set_option maxRecDepth 100000 in
set_option maxHeartbeats 8000000 in
theorem cardTours_any (v : Value) (c : Roads) (hv : Value) (hs : List Int) (w : World) (hR : RoadsAt w v c) (hH : IntsAt w hv hs) (ht : TabOk w) : Calls Tryz.prog 4 #[v, hv] w (TrueP w) := by
  have hR' := hR
  have hH' := hH
  obtain ⟨lv, fv, rfl, hll, hff⟩ := hR
  obtain ⟨la, lk, rfl, l1, l2, _⟩ := hll.open
  obtain ⟨fa, fk, rfl, f1, f2, _⟩ := hff.open
  obtain ⟨ha, hk, rfl, k1, k2, _⟩ := hH.open
  have hx0 : Ext w (w.alloc (boxC c la fa lk fk)) := (Ext.refl w).alloc _
  have HX0 := Lib.hid hx0
  have HSH := Lib.hid (fun w1 (hx : Ext (w.alloc (boxC c la fa lk fk)) w1) => short_any _ c w1 (hR'.ext (hx0.trans hx)))
  have HTA := Lib.hid (fun (h0 : hs.length ≤ 1000) hld w1 (hx : Ext (w.alloc (boxC c la fa lk fk)) w1) => tour_any _ _ c hs w1 (hR'.ext (hx0.trans hx)) (hH'.ext (hx0.trans hx)) h0 hld)
  have HTH := Lib.hid (fun (h0 : hs.length ≤ 1000) hld w1 (hx : Ext (w.alloc (boxC c la fa lk fk)) w1) => tour_heavy _ _ c hs w1 (hR'.ext (hx0.trans hx)) (hH'.ext (hx0.trans hx)) h0 hld)
  have HRR0 := Lib.hid (fun (h0 : c.loads.length ≤ 1000) w1 (hx : Ext (w.alloc (boxC c la fa lk fk)) w1) => rroads_any _ c w1 (hR'.ext (hx0.trans hx)) h0)
  have HSO := Lib.hid (fun w1 (hx : Ext (w.alloc (boxC c la fa lk fk)) w1) => rsome_any _ _ c hs w1 (hR'.ext (hx0.trans hx)) (hH'.ext (hx0.trans hx)))
  have HRI := Lib.hid (fun w1 (hx : Ext (w.alloc (boxC c la fa lk fk)) w1) => rrising_any _ hs w1 (hH'.ext (hx0.trans hx)))
  have HLO0 := Lib.hid (fun (hb : RoadsB c) hst (h0 : hs.length ≤ 1000) w1 (hx : Ext (w.alloc (boxC c la fa lk fk)) w1) => rload_any _ _ c hs w1 hb (hR'.ext (hx0.trans hx)) (hH'.ext (hx0.trans hx)) hst h0)
  have HRT0 := Lib.hid (fun (hb : RoadsB c) hst (h0 : hs.length ≤ 5) w1 (hx : Ext (w.alloc (boxC c la fa lk fk)) w1) => rtour_any _ _ c hs w1 hb (hR'.ext (hx0.trans hx)) (hH'.ext (hx0.trans hx)) hst h0)
  have HLN0 := Lib.hid (fun (hb : RoadsB c) u xs hst (h0 : xs.length ≤ 1000) w1 (hx : Ext (w.alloc (boxC c la fa lk fk)) w1) (hu : IntsAt w1 u xs) => rlength_any _ u c xs w1 hb (hR'.ext (hx0.trans hx)) hu hst h0)
  have HL := Lib.hid (fun w1 (hx : Ext (w.alloc (boxC c la fa lk fk)) w1) => lknown_any w1 (ht.ext (hx0.trans hx)))
  have HB := Lib.hid (fun W (h : Ext (w.alloc (boxC c la fa lk fk)) W) => boxC_cells ((h.block (by simp)).trans (World.alloc_heap_new w (boxC c la fa lk fk))))
  have hmix : Tryz.prog.follows .mixedOrders = true := by kernel_rfl
  clear hR' hH' hll hff hH hx0 ht
  cases hsh : shortB c with
  | false =>
    rw [hsh] at HSH
    clear hsh
    go_enter Tryz.func4, Tryz.ntmps4
    go_wp2_with (first
      | (go_at_call 19; refine (HSH.out _ (Ext.refl _)).mono ?_; rintro e w1 ⟨rfl, hx1⟩; obtain ⟨z0, z1, z2⟩ := HB.out _ hx1)
      | (go_at_call 11; refine (HL.out _ hx1).mono ?_; rintro e wk ⟨rfl, hxk⟩))
    go_ret
    exact ⟨rfl, (HX0.out.trans hx1).trans hxk⟩
  | true =>
    rw [hsh] at HSH
    have hL7 : c.loads.length ≤ 7 := by
      unfold shortB at hsh
      simp only [Bool.and_eq_true, decide_eq_true_eq] at hsh
      omega
    have HRR := Lib.hid (HRR0.out (by omega))
    clear hsh HRR0
    by_cases hlong : 7 < hs.length
    · have x1 : decide ((7 : Int) < (hs.length : Int)) = true := by simp; omega
      clear hlong
      go_enter Tryz.func4, Tryz.ntmps4
      go_wp2_with (first
        | (go_at_call 19; refine (HSH.out _ (Ext.refl _)).mono ?_; rintro e w1 ⟨rfl, hx1⟩; obtain ⟨z0, z1, z2⟩ := HB.out _ hx1)
        | (go_at_call 11; refine (HL.out _ hx1).mono ?_; rintro e wk ⟨rfl, hxk⟩))
      go_ret
      exact ⟨rfl, (HX0.out.trans hx1).trans hxk⟩
    · have x1 : decide ((7 : Int) < (hs.length : Int)) = false := by simp; omega
      have h7 : hs.length ≤ 7 := by omega
      clear hlong
      cases hr : isRoadsB c with
      | false =>
        rw [hr] at HRR
        have HT := Lib.hid (HTA.out (by omega) (fun h => by rw [hr] at h; cases h))
        have HBAD : Hid (isRoadsB c = false ∨ hs.length = 0 ∨ badStops c hs = true) := .inl hr
        clear hr
        go_enter Tryz.func4, Tryz.ntmps4
        go_wp2_with (first
          | (go_at_call 19; refine (HSH.out _ (Ext.refl _)).mono ?_; rintro e w1 ⟨rfl, hx1⟩; obtain ⟨z0, z1, z2⟩ := HB.out _ hx1)
          | (go_at_call 20; refine (HT.out _ hx1).mono ?_; rintro e w2 ⟨nv, d, err, rfl, hx2, hq⟩; rw [if_pos HBAD.out] at hq; obtain ⟨rfl, rfl, rfl⟩ := hq; have hx12 := hx1.trans hx2; clear z0 z1 z2; obtain ⟨z0, z1, z2⟩ := HB.out _ hx12)
          | (go_at_call 21; refine (HRR.out _ hx12).mono ?_; rintro e w3 ⟨rfl, hx3⟩; have hx13 := hx12.trans hx3; clear z0 z1 z2; obtain ⟨z0, z1, z2⟩ := HB.out _ hx13)
          | (go_at_call 11; refine (HL.out _ hx13).mono ?_; rintro e wk ⟨rfl, hxk⟩))
        go_ret
        exact ⟨rfl, (HX0.out.trans hx13).trans hxk⟩
      | true =>
        rw [hr] at HRR
        by_cases h0 : hs.length = 0
        · have y1 : ((hs.length : Int) == 0) = true := by rw [beq_iff_eq]; omega
          have y2 : (hs.length == 0) = true := by rw [beq_iff_eq]; exact h0
          have HT := Lib.hid (HTA.out (by omega) (fun _ hb x hx => by
            obtain rfl := List.length_eq_zero_iff.1 h0
            rw [List.mem_singleton.1 (show x ∈ [[]] from hx)]
            have := (roadsB_of hr).b1
            rw [loadOf_nil]; exact this))
          have HBAD : Hid (isRoadsB c = false ∨ hs.length = 0 ∨ badStops c hs = true) := .inr (.inl h0)
          clear hr h0
          go_enter Tryz.func4, Tryz.ntmps4
          go_wp2_with (first
            | (go_at_call 19; refine (HSH.out _ (Ext.refl _)).mono ?_; rintro e w1 ⟨rfl, hx1⟩; obtain ⟨z0, z1, z2⟩ := HB.out _ hx1)
            | (go_at_call 20; refine (HT.out _ hx1).mono ?_; rintro e w2 ⟨nv, d, err, rfl, hx2, hq⟩; rw [if_pos HBAD.out] at hq; obtain ⟨rfl, rfl, rfl⟩ := hq; have hx12 := hx1.trans hx2; clear z0 z1 z2; obtain ⟨z0, z1, z2⟩ := HB.out _ hx12)
            | (go_at_call 21; refine (HRR.out _ hx12).mono ?_; rintro e w3 ⟨rfl, hx3⟩; have hx13 := hx12.trans hx3; clear z0 z1 z2; obtain ⟨z0, z1, z2⟩ := HB.out _ hx13)
            | (go_at_call 11; refine (HL.out _ hx13).mono ?_; rintro e wk ⟨rfl, hxk⟩))
          go_ret
          exact ⟨rfl, (HX0.out.trans hx13).trans hxk⟩
        · have y1 : ((hs.length : Int) == 0) = false := by rw [beq_eq_false_iff_ne]; omega
          have y2 : (hs.length == 0) = false := by rw [beq_eq_false_iff_ne]; exact h0
          cases hso : someB c hs with
          | false =>
            rw [hso] at HSO
            have hbs : badStops c hs = true := by rw [stops_parts, hso]; rfl
            have HT := Lib.hid (HTA.out (by omega) (fun _ hb => by rw [hbs] at hb; cases hb))
            have HBAD : Hid (isRoadsB c = false ∨ hs.length = 0 ∨ badStops c hs = true) := .inr (.inr hbs)
            clear hr h0 hso hbs
            go_enter Tryz.func4, Tryz.ntmps4
            go_wp2_with (first
              | (go_at_call 19; refine (HSH.out _ (Ext.refl _)).mono ?_; rintro e w1 ⟨rfl, hx1⟩; obtain ⟨z0, z1, z2⟩ := HB.out _ hx1)
              | (go_at_call 20; refine (HT.out _ hx1).mono ?_; rintro e w2 ⟨nv, d, err, rfl, hx2, hq⟩; rw [if_pos HBAD.out] at hq; obtain ⟨rfl, rfl, rfl⟩ := hq; have hx12 := hx1.trans hx2; clear z0 z1 z2; obtain ⟨z0, z1, z2⟩ := HB.out _ hx12)
              | (go_at_call 21; refine (HRR.out _ hx12).mono ?_; rintro e w3 ⟨rfl, hx3⟩; have hx13 := hx12.trans hx3; clear z0 z1 z2; obtain ⟨z0, z1, z2⟩ := HB.out _ hx13)
              | (go_at_call 22; refine (HSO.out _ hx13).mono ?_; rintro e w4 ⟨rfl, hx4⟩; have hx14 := hx13.trans hx4; clear z0 z1 z2; obtain ⟨z0, z1, z2⟩ := HB.out _ hx14)
              | (go_at_call 11; refine (HL.out _ hx14).mono ?_; rintro e wk ⟨rfl, hxk⟩))
            go_ret
            exact ⟨rfl, (HX0.out.trans hx14).trans hxk⟩
          | true =>
            rw [hso] at HSO
            have hst := some_stop hso
            cases hri : risingB hs with
            | false =>
              rw [hri] at HRI
              have hbs : badStops c hs = true := by rw [stops_parts, hri]; simp
              have HT := Lib.hid (HTA.out (by omega) (fun _ hb => by rw [hbs] at hb; cases hb))
              have HBAD : Hid (isRoadsB c = false ∨ hs.length = 0 ∨ badStops c hs = true) := .inr (.inr hbs)
              clear hr h0 hso hbs hri hst
              go_enter Tryz.func4, Tryz.ntmps4
              go_wp2_with (first
                | (go_at_call 19; refine (HSH.out _ (Ext.refl _)).mono ?_; rintro e w1 ⟨rfl, hx1⟩; obtain ⟨z0, z1, z2⟩ := HB.out _ hx1)
                | (go_at_call 20; refine (HT.out _ hx1).mono ?_; rintro e w2 ⟨nv, d, err, rfl, hx2, hq⟩; rw [if_pos HBAD.out] at hq; obtain ⟨rfl, rfl, rfl⟩ := hq; have hx12 := hx1.trans hx2; clear z0 z1 z2; obtain ⟨z0, z1, z2⟩ := HB.out _ hx12)
                | (go_at_call 21; refine (HRR.out _ hx12).mono ?_; rintro e w3 ⟨rfl, hx3⟩; have hx13 := hx12.trans hx3; clear z0 z1 z2; obtain ⟨z0, z1, z2⟩ := HB.out _ hx13)
                | (go_at_call 22; refine (HSO.out _ hx13).mono ?_; rintro e w4 ⟨rfl, hx4⟩; have hx14 := hx13.trans hx4; clear z0 z1 z2; obtain ⟨z0, z1, z2⟩ := HB.out _ hx14)
                | (go_at_call 23; refine (HRI.out _ hx14).mono ?_; rintro e w5 ⟨rfl, hx5⟩; have hx15 := hx14.trans hx5; clear z0 z1 z2; obtain ⟨z0, z1, z2⟩ := HB.out _ hx15)
                | (go_at_call 11; refine (HL.out _ hx15).mono ?_; rintro e wk ⟨rfl, hxk⟩))
              go_ret
              exact ⟨rfl, (HX0.out.trans hx15).trans hxk⟩
            | true =>
              rw [hri] at HRI
              have hbs : badStops c hs = false := by rw [stops_parts, hso, hri]; rfl
              have hB := roadsB_of hr
              have hnd := nodup_of_stops hbs
              have HOK : Hid (¬ (isRoadsB c = false ∨ hs.length = 0 ∨ badStops c hs = true)) := by unfold Hid; rw [hr, hbs]; simp; intro h; exact h0 (by rw [h]; rfl)
              have HLO := Lib.hid (HLO0.out hB hst (by omega))
              by_cases hld : c.bears < loadOf c hs
              · have HT := Lib.hid (HTH.out (by omega) (fun _ _ => hld))
                have u1 : decide (c.bears < loadOf c hs) = true := by simpa using hld
                clear hr h0 hso hbs hri hst hB hnd hld HLO0 HRT0 HLN0
                go_enter Tryz.func4, Tryz.ntmps4
                go_upto_region 6 with (first
                  | (go_at_call 19; refine (HSH.out _ (Ext.refl _)).mono ?_; rintro e w1 ⟨rfl, hx1⟩; obtain ⟨z0, z1, z2⟩ := HB.out _ hx1)
                  | (go_at_call 20; refine (HT.out _ hx1).mono ?_; rintro e w2 ⟨nv, d, err, rfl, hx2, hq⟩; rw [if_neg HOK.out] at hq; obtain ⟨rfl, rfl, rfl⟩ := hq; have hx12 := hx1.trans hx2; clear z0 z1 z2; obtain ⟨z0, z1, z2⟩ := HB.out _ hx12)
                  | (go_at_call 21; refine (HRR.out _ hx12).mono ?_; rintro e w3 ⟨rfl, hx3⟩; have hx13 := hx12.trans hx3; clear z0 z1 z2; obtain ⟨z0, z1, z2⟩ := HB.out _ hx13)
                  | (go_at_call 22; refine (HSO.out _ hx13).mono ?_; rintro e w4 ⟨rfl, hx4⟩; have hx14 := hx13.trans hx4; clear z0 z1 z2; obtain ⟨z0, z1, z2⟩ := HB.out _ hx14)
                  | (go_at_call 23; refine (HRI.out _ hx14).mono ?_; rintro e w5 ⟨rfl, hx5⟩; have hx15 := hx14.trans hx5; clear z0 z1 z2; obtain ⟨z0, z1, z2⟩ := HB.out _ hx15))
                have hd5 : Ext w5 w5.drew := (Ext.refl w5).drew
                go_region_held3 (fun w' => w'.cell? ⟨w.heap.size, 0, none⟩ = some (.slice la c.loads.length lk) ∧ w'.cell? ⟨w.heap.size, 1, none⟩ = some (.int .i64 c.bears) ∧ w'.cell? ⟨w.heap.size, 2, none⟩ = some (.slice fa c.far.length fk))
                  (first | go_keep | exact HB.out _ (hx15.trans hd5) | exact HB.out _ hx16)
                  (first | (go_at_call 24; refine (HLO.out _ (hx15.trans hd5)).mono ?_; rintro e w6 ⟨rfl, hx6⟩; have hx16 := (hx15.trans hd5).trans hx6))
                clear z0 z1 z2
                obtain ⟨z0, z1, z2⟩ := HB.out _ hx16
                go_wp2_with (first
                  | (go_at_call 11; refine (HL.out _ hx16).mono ?_; rintro e wk ⟨rfl, hxk⟩))
                go_ret
                exact ⟨rfl, (HX0.out.trans hx16).trans hxk⟩
              · have HT := Lib.hid (HTA.out (by omega) (fun _ _ x hx => by rw [loadOf_perm (ordersOf_perm hx)]; omega))
                have u1 : decide (c.bears < loadOf c hs) = false := by simpa using hld
                have h5 : hs.length ≤ 5 := by
                  have hsub := nodup_le (hs := hs) (now := (List.range c.loads.length).map fun (i : Nat) => (i : Int) + 1) hnd (fun n hn => by
                    have := hst n hn
                    rw [List.mem_map]
                    exact ⟨(n - 1).toNat, List.mem_range.2 (by omega), by omega⟩)
                  rw [List.length_map, List.length_range] at hsub
                  have := hB.n2
                  omega
                have HBT := Lib.hid (refTour_eq (c := c) hnd)
                have HRT := Lib.hid (HRT0.out hB hst h5)
                have hmt := refTour_mem (c := c) (l := hs)
                have HLN := Lib.hid (fun w1 hx u hu => HLN0.out hB u (refTour c hs) (fun n hn => by
                  rcases refO_sub _ _ _ hmt n hn with h1 | ⟨_, h2⟩
                  · exact hst n h1
                  · omega) (by have := refO_mem_len _ _ rfl _ hmt; omega) w1 hx hu)
                clear hr h0 hso hbs hri hst hB hnd hld HLO0 HRT0 HLN0 hmt h5
                go_enter Tryz.func4, Tryz.ntmps4
                go_upto_region 6 with (first
                  | (go_at_call 19; refine (HSH.out _ (Ext.refl _)).mono ?_; rintro e w1 ⟨rfl, hx1⟩; obtain ⟨z0, z1, z2⟩ := HB.out _ hx1)
                  | (go_at_call 20; refine (HT.out _ hx1).mono ?_; rintro e w2 ⟨nv, d, err, rfl, hx2, hq⟩; rw [if_neg HOK.out, HBT.out] at hq; obtain ⟨rfl, rfl, hin⟩ := hq; obtain ⟨ta, tk, rfl, _⟩ := hin.open; have HIN := Lib.hid hin; clear hin; have hx12 := hx1.trans hx2; clear z0 z1 z2; obtain ⟨z0, z1, z2⟩ := HB.out _ hx12)
                  | (go_at_call 21; refine (HRR.out _ hx12).mono ?_; rintro e w3 ⟨rfl, hx3⟩; have hx13 := hx12.trans hx3; clear z0 z1 z2; obtain ⟨z0, z1, z2⟩ := HB.out _ hx13)
                  | (go_at_call 22; refine (HSO.out _ hx13).mono ?_; rintro e w4 ⟨rfl, hx4⟩; have hx14 := hx13.trans hx4; clear z0 z1 z2; obtain ⟨z0, z1, z2⟩ := HB.out _ hx14)
                  | (go_at_call 23; refine (HRI.out _ hx14).mono ?_; rintro e w5 ⟨rfl, hx5⟩; have hx15 := hx14.trans hx5; clear z0 z1 z2; obtain ⟨z0, z1, z2⟩ := HB.out _ hx15))
                have hd5 : Ext w5 w5.drew := (Ext.refl w5).drew
                go_region_held3 (fun w' => w'.cell? ⟨w.heap.size, 0, none⟩ = some (.slice la c.loads.length lk) ∧ w'.cell? ⟨w.heap.size, 1, none⟩ = some (.int .i64 c.bears) ∧ w'.cell? ⟨w.heap.size, 2, none⟩ = some (.slice fa c.far.length fk))
                  (first | go_keep | exact HB.out _ (hx15.trans hd5) | exact HB.out _ hx16)
                  (first | (go_at_call 24; refine (HLO.out _ (hx15.trans hd5)).mono ?_; rintro e w6 ⟨rfl, hx6⟩; have hx16 := (hx15.trans hd5).trans hx6))
                clear z0 z1 z2
                obtain ⟨z0, z1, z2⟩ := HB.out _ hx16
                go_wp2_with (first
                  | (go_at_call 25; refine (HRT.out _ hx16).mono ?_; rintro e w7 ⟨v7, rfl, hx7, hi7⟩; obtain ⟨a7, c7, rfl, _⟩ := hi7.open; have HI7 := Lib.hid hi7; clear hi7; have hx17 := hx16.trans hx7; clear z0 z1 z2; obtain ⟨z0, z1, z2⟩ := HB.out _ hx17)
                  | (go_at_call 26; refine (same_yes _ _ _ _ (HIN.out.ext (((((hx3.trans hx4).trans hx5).trans hd5).trans hx6).trans hx7)) HI7.out).mono ?_; rintro e w8 ⟨rfl, hx8⟩; have hx18 := hx17.trans hx8; clear z0 z1 z2; obtain ⟨z0, z1, z2⟩ := HB.out _ hx18)
                  | (go_at_call 27; refine (HLN.out _ hx18 _ (HI7.out.ext hx8)).mono ?_; rintro e w9 ⟨rfl, hx9⟩; have hx19 := hx18.trans hx9)
                  | (go_at_call 11; refine (HL.out _ hx19).mono ?_; rintro e wk ⟨rfl, hxk⟩))
                go_ret
                exact ⟨rfl, (HX0.out.trans hx19).trans hxk⟩
end Go.Proofs.YtpheidlocijdkaaGreatDoor
