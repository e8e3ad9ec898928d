/- Tour where it is too heavy. -/
import Derived.Test.YtapkbonlijhmjaaGreatDoorHeavy
import Derived.Test.YtapkbonlijhmjaaGreatDoorPush
namespace Go.Proofs.YtapkbonlijhmjaaGreatDoor
open Go.RowKit

theorem stops_lt {c : Roads} {hs : List Int} (h : badStops c hs = false) : ∀ (d i : Nat), i + d + 1 < hs.length → hs.getD i 0 < hs.getD (i + d + 1) 0
  | d, i, hi => by
    have step : ∀ m, m + 1 < hs.length → hs.getD m 0 < hs.getD (m + 1) 0 := fun m hm => by
      unfold badStops at h
      rw [List.any_eq_false] at h
      have := h (m + 1) (List.mem_range.2 hm)
      unfold badAt at this
      simp only [Nat.add_sub_cancel, Bool.or_eq_true, Bool.and_eq_true, decide_eq_true_eq, not_or, not_and] at this
      have h2 := this.2 (by omega)
      omega
    cases d with
    | zero => exact step i hi
    | succ d =>
      have h1 := stops_lt h d i (by omega)
      have h2 := step (i + d + 1) (by omega)
      have e : i + (d + 1) + 1 = i + d + 1 + 1 := by omega
      rw [e]
      omega
theorem nodup_of_stops {c : Roads} {hs : List Int} (h : badStops c hs = false) : hs.Nodup := by
  rw [List.Nodup, List.pairwise_iff_getElem]
  intro i j hi hj hij e
  have := stops_lt h (j - i - 1) i (by omega)
  rw [show i + (j - i - 1) + 1 = j by omega, List.getD_eq_getElem?_getD, List.getD_eq_getElem?_getD, List.getElem?_eq_getElem hi, List.getElem?_eq_getElem hj] at this
  simp only [Option.getD_some] at this
  omega
/-- What Tour answers where the houses are too heavy. -/
def TourResH (c : Roads) (hs : List Int) (w : World) (e : Ending) (w' : World) : Prop :=
  ∃ nv d err, e = .returned (.tuple #[nv, .int .i64 d, .int .i64 err]) ∧ Ext w w' ∧
    if isRoadsB c = false ∨ hs.length = 0 ∨ badStops c hs = true then nv = .slice none 0 0 ∧ d = 0 ∧ err = 2
    else nv = .slice none 0 0 ∧ d = 0 ∧ err = 7
set_option maxRecDepth 100000 in
set_option maxHeartbeats 8000000 in
theorem tour_heavy (v hv : Value) (c : Roads) (hs : List Int) (w : World) (hR : RoadsAt w v c) (hH : IntsAt w hv hs) (hl0 : hs.length ≤ 1000)
    (hld : isRoadsB c = true → badStops c hs = false → c.bears < loadOf c hs) :
    Calls Tryz.prog 44 #[v, hv] w (TourResH c hs w) := by
  have HR := Lib.hid (fun w1 (hx : Ext w w1) => isRoads_any v c w1 (hR.ext hx))
  have HST := Lib.hid (fun n w1 (hx : Ext w w1) => isStop_any v c n w1 (hR.ext hx))
  have HTC := Lib.hid (fun w1 (hx : Ext w w1) => hR.ext hx)
  have HHC := Lib.hid (fun w1 (hx : Ext w w1) => hH.ext hx)
  obtain ⟨lv, fv, rfl, hlv, hfv⟩ := hR
  obtain ⟨la, lk, rfl, _⟩ := hlv.open
  obtain ⟨fa, fk, rfl, _⟩ := hfv.open
  obtain ⟨ha, hk, rfl, k1, k2, h3⟩ := hH.open
  have HLD := Lib.hid hld
  clear hld hlv hfv hH
  have hmix : Tryz.prog.follows .mixedOrders = true := by kernel_rfl
  by_cases hr : isRoadsB c = true
  · by_cases hn : hs.length = 0
    · have hfin : ∀ w1, Ext w w1 → TourResH c hs w (.returned (.tuple #[.slice none 0 0, .int .i64 0, .int .i64 2])) w1 := fun w1 hx => ⟨_, _, _, rfl, hx, by rw [if_pos (.inr (.inl hn))]; exact ⟨rfl, rfl, rfl⟩⟩
      have HF := Lib.hid hfin
      clear hfin h3
      go_enter Tryz.func44, Tryz.ntmps44
      go_wp2_with (go_at_call 50; refine (HR.out _ (((Ext.refl w).alloc _).alloc _)).mono ?_; rintro e w1 ⟨rfl, hx1⟩; have q0 := hx1.cell (a := ⟨w.heap.size + 1, 0, none⟩) (v := .slice ha hs.length hk) (by go_simp))
      go_ret3
      exact HF.out _ ((((Ext.refl w).alloc _).alloc _).trans hx1)
    · have n1 : ((hs.length : Int) == 0) = false := by rw [beq_eq_false_iff_ne]; omega
      have n2 : (hs.length == 0) = false := by rw [beq_eq_false_iff_ne]; exact hn
      have hbadfin : ∀ w1 j, j < hs.length → badAt c hs j = true → Ext w w1 → TourResH c hs w (.returned (.tuple #[.slice none 0 0, .int .i64 0, .int .i64 2])) w1 := fun w1 j hj hb hx => ⟨_, _, _, rfl, hx, by rw [if_pos (.inr (.inr (badStops_of hj hb)))]; exact ⟨rfl, rfl, rfl⟩⟩
      have HF := Lib.hid hbadfin
      have HG := Lib.hid (fun (h : ∀ i, i < hs.length → badAt c hs i = false) => badStops_none h)
      clear hbadfin
      go_enter Tryz.func44, Tryz.ntmps44
      go_wp2_with (first | (go_at_call 50; refine (HR.out _ (((Ext.refl w).alloc _).alloc _)).mono ?_; rintro e w1 ⟨rfl, hx1⟩; have q0 := hx1.cell (a := ⟨w.heap.size + 1, 0, none⟩) (v := .slice ha hs.length hk) (by go_simp); have q1 := hx1.cell (a := ⟨w.heap.size, 0, none⟩) (v := .slice la c.loads.length lk) (by go_simp); have q2 := hx1.cell (a := ⟨w.heap.size, 1, none⟩) (v := .int .i64 c.bears) (by go_simp); have q3 := hx1.cell (a := ⟨w.heap.size, 2, none⟩) (v := .slice fa c.far.length fk) (by go_simp)))
      clear n1 n2
      go_loopw [20] (fun i wr => ∃ (j : Nat), j ≤ hs.length ∧ i = .int .i64 j ∧ Hid (∀ i, i < j → badAt c hs i = false) ∧ Ext w1 wr) (fun i _ => hs.length - (intOf i).toNat)
      case atStart => exact ⟨0, Nat.zero_le _, rfl, fun i hi => by omega, Ext.refl _⟩
      case round =>
        obtain ⟨j, hj, rfl, hgood, hx⟩ := hrel
        have hxw := ((((Ext.refl w).alloc (.cells #[.slice la c.loads.length lk, .int .i64 c.bears, .slice fa c.far.length fk] 25)).alloc (.cells #[.slice ha hs.length hk] 22)).trans hx1).trans hx
        have p0 := hx.cell q0
        have p1 := hx.cell q1
        have p2 := hx.cell q2
        have p3 := hx.cell q3
        clear q0 q1 q2 q3 hx1
        by_cases hlt : j < hs.length
        · obtain ⟨b, o, n, rfl, hnk, hc⟩ := h3 j hlt
          have hd := hxw.cell hc
          have hgn : hs.getD j 0 = n := by rw [List.getD_eq_getElem?_getD, hnk.out]; rfl
          by_cases hst : isStopB c n = true
          · cases j with
            | zero =>
              have hb0 : badAt c hs 0 = false := by unfold badAt; rw [hgn, hst]; simp
              have HB := Lib.hid hb0
              clear hb0 hc h3 hgn
              rw [Nat.add_zero] at hd
              go_wp2_with (go_at_call 74; refine (HST.out _ _ hxw).mono ?_; rintro e w2 ⟨rfl, hx2⟩; have z0 := hx2.cell p0; have z1 := hx2.cell hd)
              go_roundw
              case rel => exact ⟨1, by omega, by go_num, fun i hi => by (have : i = 0 := by omega); subst this; exact HB.out, hx.trans hx2⟩
              case measure => simp [intOf]; omega
            | succ m =>
              obtain ⟨b', o', n', hbb, hnk', hc'⟩ := h3 m (by omega)
              cases hbb
              have hd' := hxw.cell hc'
              have hgn' : hs.getD m 0 = n' := by rw [List.getD_eq_getElem?_getD, hnk'.out]; rfl
              have b1 : (0 : Int) ≤ (m : Int) := by omega
              have b2 : (m : Int) < (hs.length : Int) := by omega
              by_cases hle : n ≤ n'
              · have hb0 : badAt c hs (m + 1) = true := by unfold badAt; rw [hgn, hst, Nat.add_sub_cancel, hgn']; simp [hle]
                have HB := Lib.hid hb0
                clear hb0 hc hc' h3 hgn hgn' HG
                go_wp2_with (go_at_call 74; refine (HST.out _ _ hxw).mono ?_; rintro e w2 ⟨rfl, hx2⟩; have z0 := hx2.cell p0; have z1 := hx2.cell hd; have z2 := hx2.cell hd')
                go_ret3
                exact HF.out _ _ hlt HB.out (hxw.trans hx2)
              · have hb0 : badAt c hs (m + 1) = false := by unfold badAt; rw [hgn, hst, Nat.add_sub_cancel, hgn']; simp; omega
                have HB := Lib.hid hb0
                clear hb0 hc hc' h3 hgn hgn' HG
                go_wp2_with (go_at_call 74; refine (HST.out _ _ hxw).mono ?_; rintro e w2 ⟨rfl, hx2⟩; have z0 := hx2.cell p0; have z1 := hx2.cell hd; have z2 := hx2.cell hd')
                go_roundw
                case rel => exact ⟨m + 2, by omega, by go_num, fun i hi => by (by_cases h : i < m + 1); exact hgood.out i h; (have : i = m + 1 := by omega); subst this; exact HB.out, hx.trans hx2⟩
                case measure => simp [intOf]; omega
          · have hst' : isStopB c n = false := by simpa using hst
            have hb0 : badAt c hs j = true := by unfold badAt; rw [hgn, hst']; simp
            have HB := Lib.hid hb0
            clear hb0 hc h3 hgn hst HG
            go_wp2_with (go_at_call 74; refine (HST.out _ _ hxw).mono ?_; rintro e w2 ⟨rfl, hx2⟩; have z0 := hx2.cell p0; have z1 := hx2.cell hd)
            go_ret3
            exact HF.out _ _ hlt HB.out (hxw.trans hx2)
        · have hg := badStops_none (fun i hi => hgood.out i (by omega))
          have hst := badStops_stop hg
          have hld := HLD.out hr hg
          have hB := roadsB_of hr
          have hW1 : Ext w (wr.alloc (.cells #[.slice none 0 0, .int .i64 0] 137)) := hxw.alloc _
          have hnd := nodup_of_stops hg
          have hne : ¬ (isRoadsB c = false ∨ hs.length = 0 ∨ badStops c hs = true) := by rw [hr, hg]; simp; intro h; exact hn (by rw [h]; rfl)
          have hld2 : ∀ xs : List Int, xs.length = hs.length → xs.Nodup → (∀ n, n ∈ xs → n ∈ hs) → c.bears < loadOf c xs := fun xs h1 h2 h3 => by rw [loadOf_perm (perm_of_sub h2 h3 h1)]; exact hld
          have hcall := fun (W : World) (hW : Ext w W) e1 c0 c1 c2 => try_heavy 99 #[.pointer (some ⟨w.heap.size, 0, none⟩), .pointer (some ⟨w.heap.size + 1, 0, none⟩), .pointer (some ⟨wr.heap.size, 0, none⟩)] enters_tour1 W
            (tour1_heavy _ _ _ c hs (W.alloc (.cells #[.bool false] 4)) (w.heap.size + 1) w.heap.size wr.heap.size hB (HTC.out _ (hW.alloc _)) (HHC.out _ (hW.alloc _)) hl0 hnd hst hld2 e1 c0 c1 c2)
          have HT := Lib.hid hcall
          have HF7 : Hid (∀ w1, Ext w w1 → TourResH c hs w (.returned (.tuple #[.slice none 0 0, .int .i64 0, .int .i64 7])) w1) := fun w1 hx => ⟨_, _, _, rfl, hx, by rw [if_neg hne]; exact ⟨rfl, rfl, rfl⟩⟩
          clear hcall hst hld hld2 hB h3 hgood hne hnd
          go_wp2_with (go_at_call 75; refine (HT.out _ hW1 ((((Ext.refl wr).alloc _).alloc _).cell p0) ((((Ext.refl wr).alloc _).alloc _).cell p1) ((((Ext.refl wr).alloc _).alloc _).cell p2) ((((Ext.refl wr).alloc _).alloc _).cell p3)).mono ?_; rintro e w2 ⟨rfl, hx2⟩)
          go_ret3
          exact HF7.out _ (hW1.trans hx2)
  · have hr' : isRoadsB c = false := by simpa using hr
    have hfin : ∀ w1, Ext w w1 → TourResH c hs w (.returned (.tuple #[.slice none 0 0, .int .i64 0, .int .i64 2])) w1 := fun w1 hx => ⟨_, _, _, rfl, hx, by rw [if_pos (.inl hr')]; exact ⟨rfl, rfl, rfl⟩⟩
    have HF := Lib.hid hfin
    clear hfin h3
    go_enter Tryz.func44, Tryz.ntmps44
    go_wp2_with (go_at_call 50; refine (HR.out _ (((Ext.refl w).alloc _).alloc _)).mono ?_; rintro e w1 ⟨rfl, hx1⟩; have q0 := hx1.cell (a := ⟨w.heap.size + 1, 0, none⟩) (v := .slice ha hs.length hk) (by go_simp))
    go_ret3
    exact HF.out _ ((((Ext.refl w).alloc _).alloc _).trans hx1)
end Go.Proofs.YtapkbonlijhmjaaGreatDoor
