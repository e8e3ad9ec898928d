/- The reference's Tour. -/
import Derived.Test.YtapkbonlijhmjaaGreatDoorRorders
namespace Go.Proofs.YtapkbonlijhmjaaGreatDoor
open Go.RowKit

theorem refO_sub : ∀ (f : Nat) (l : List Int) (xs : List Int), xs ∈ refO f l → ∀ n, n ∈ xs → n ∈ l ∨ n = 0 ∧ l.length < f
  | 0, _, xs, h, n, hn => by simp [refO] at h; subst h; simp at hn
  | f + 1, l, xs, h, n, hn => by
    unfold refO at h
    obtain ⟨i, hi, h⟩ := List.mem_flatMap.1 h
    have hil := List.mem_range.1 hi
    obtain ⟨ys, hy, rfl⟩ := List.mem_map.1 h
    rcases List.mem_cons.1 hn with rfl | hn
    · left; rw [List.getD_eq_getElem?_getD, List.getElem?_eq_getElem hil]; exact List.getElem_mem hil
    · rcases refO_sub f _ ys hy n hn with h1 | ⟨h1, h2⟩
      · exact .inl (List.mem_of_mem_eraseIdx h1)
      · right; rw [List.length_eraseIdx_of_lt hil] at h2; exact ⟨h1, by omega⟩
theorem ListsOwn.open {W : World} {base : Nat} {v : Value} {xss : List (List Int)} (h : ListsOwn W base v xss) : ∃ a c, v = .slice a xss.length c ∧ xss.length ≤ c ∧ c ≤ 9223372036854775807 ∧ ∀ i, i < xss.length → ∃ b o x xs, a = some ⟨b, o, none⟩ ∧ Hid (xss[i]? = some xs) ∧
    W.cell? ⟨b, o + i, none⟩ = some x ∧ W.ownsRow base 3 1 x xs.length (xs.map (.int .i64)) := by
  obtain ⟨vs, hl, hr, h4⟩ := h
  obtain ⟨a, c, hv, h1, h2, _, h3⟩ := RowAt.of_owns hr
  refine ⟨a, c, hv, h1, h2, fun i hi => ?_⟩
  obtain ⟨b, o, ha, hc⟩ := h3 i vs[i] (by simp)
  exact ⟨b, o, vs[i], xss[i], ha, (by simp [Hid, hi]), hc, h4 i _ _ (by simp) (by simp [hi])⟩
def stepT (c : Roads) (b x : List Int) : List Int := if shorterB c x b then x else b
def bestUp (c : Roads) (l : List Int) (k : Nat) : List Int := ((refO l.length l).take k).foldl (stepT c) ((refO l.length l).headD [])
theorem bestUp_succ {c : Roads} {l : List Int} {k : Nat} {x : List Int} (h : (refO l.length l)[k]? = some x) : bestUp c l (k + 1) = stepT c (bestUp c l k) x := by
  unfold bestUp; rw [List.take_add_one, h, List.foldl_append]; rfl
theorem bestUp_all (c : Roads) (l : List Int) {k : Nat} (h : (refO l.length l).length ≤ k) : bestUp c l k = refTour c l := by
  unfold bestUp refTour; rw [List.take_of_length_le h]; rfl
theorem bestUp_mem {c : Roads} {l : List Int} (hne : (refO l.length l) ≠ []) : ∀ k, bestUp c l k ∈ refO l.length l := by
  intro k
  induction k with
  | zero =>
    unfold bestUp
    cases h : refO l.length l with
    | nil => exact absurd h hne
    | cons x xs => simp
  | succ k ih =>
    cases h : (refO l.length l)[k]? with
    | none =>
      have : bestUp c l (k + 1) = bestUp c l k := by
        unfold bestUp
        rw [List.take_add_one, h]; simp
      rw [this]; exact ih
    | some x =>
      rw [bestUp_succ h]
      unfold stepT
      split
      · exact List.mem_of_getElem? h
      · exact ih
set_option maxRecDepth 100000 in
set_option maxHeartbeats 8000000 in
theorem rtour_own (v hv : Value) (c : Roads) (l : List Int) (w : World) (hb : RoadsB c) (hc : RoadsAt w v c) (hl : IntsAt w hv l) (hs : ∀ n, n ∈ l → 1 ≤ n ∧ n ≤ c.loads.length) (hn : l.length ≤ 5) :
    Calls Tryz.prog 63 #[v, hv] w fun e w' => ∃ v1, e = .returned v1 ∧ Ext w w' ∧ w'.ownsRow w.heap.size 3 1 v1 (refTour c l).length ((refTour c l).map (.int .i64)) := by
  have hc' := hc
  obtain ⟨lv, fv, rfl, hll, hff⟩ := hc
  have hlen := refO_len l.length l rfl
  have hfac := facN_le hn
  have hpos : 0 < (refO l.length l).length := by
    rw [hlen]
    rcases (show l.length = 0 ∨ l.length = 1 ∨ l.length = 2 ∨ l.length = 3 ∨ l.length = 4 ∨ l.length = 5 by omega) with e | e | e | e | e | e <;> rw [e] <;> decide
  have hmem : ∀ xs, xs ∈ refO l.length l → (∀ n, n ∈ xs → 1 ≤ n ∧ n ≤ c.loads.length) ∧ xs.length ≤ 1000 := fun xs h => ⟨fun n hn => by
    rcases refO_sub _ _ xs h n hn with h1 | ⟨_, h2⟩
    · exact hs n h1
    · omega, by have := refO_mem_len _ l rfl xs h; omega⟩
  have HBM := Lib.hid (bestUp_mem (c := c) (l := l) (List.length_pos_iff.1 hpos))
  have HRO := Lib.hid (fun w1 (hx : Ext w w1) => rorders_any l.length l hv w1 rfl hn (hl.ext hx))
  have HLN := Lib.hid (fun w1 (hx : Ext w w1) u xs (hm : xs ∈ refO l.length l) (hu : IntsAt w1 u xs) => rlength_any _ u c xs w1 hb (hc'.ext hx) hu (hmem xs hm).1 (hmem xs hm).2)
  obtain ⟨la, lk, rfl, l1, l2, _⟩ := hll.open
  obtain ⟨fa, fk, rfl, f1, f2, _⟩ := hff.open
  have hx0 : Ext w (w.alloc (boxC c la fa lk fk)) := (Ext.refl w).alloc _
  have HX0 := Lib.hid hx0
  have HBC := Lib.hid (fun W (h : Ext (w.alloc (boxC c la fa lk fk)) W) => boxC_cells ((h.block (by simp)).trans (World.alloc_heap_new w (boxC c la fa lk fk))))
  have hmix : Tryz.prog.follows .mixedOrders = true := by kernel_rfl
  obtain ⟨N, hN⟩ : ∃ N, (refO l.length l).length = N := ⟨_, rfl⟩
  have HNN := Lib.hid hN
  have hN1 : 0 < N := by omega
  have hN2 : N ≤ 120 := by omega
  clear hll hff hl hc' hmem hlen hfac hpos hs hN
  go_enter Tryz.func63, Tryz.ntmps63
  go_upto_region 2 with (go_at_call 113; refine (HRO.out _ HX0.out).mono ?_; rintro e w1 ⟨v1, rfl, hx1, hl1⟩; obtain ⟨ra, rc, hv1, q1, q2, q3⟩ := hl1.open; rw [HNN.out] at hv1 q1 q3; subst hv1; have Q3 := Lib.hid q3; clear hl1 q3)
  obtain ⟨rb, ro, rv, row0, hra, hrow0, hc0, hw0⟩ := Q3.out 0 hN1
  subst hra
  have hi0 := IntsAt.of_owns hw0
  obtain ⟨a0, k0, rfl, _, _, _⟩ := hi0.open
  rw [Nat.add_zero] at hc0
  have HB0 : Hid (bestUp c l 0 = row0) := by
    unfold Hid bestUp
    have h := hrow0.out
    cases hh : refO l.length l with
    | nil => rw [hh] at h; simp at h
    | cons y ys => rw [hh] at h; simp only [List.getElem?_cons_zero, Option.some.injEq] at h; simpa using h
  have y0 : (0 : Int) < (N : Int) := by omega
  have hbase : w.heap.size ≤ (w.alloc (boxC c la fa lk fk)).heap.size := by simp
  have HBS := Lib.hid hbase
  have HI0 := Lib.hid (owns_lower hw0 hbase)
  clear hi0 hrow0 hw0 hbase
  go_wp2
  clear y0 hc0
  go_loopw [6, 7] (fun bv i wr => ∃ (k : Nat) (ba : Option Addr) (bn bc : Nat), k ≤ N ∧ i = .int .i64 k ∧ bv = .slice ba bn bc ∧ wr.ownsRow w.heap.size 3 1 bv (bestUp c l k).length ((bestUp c l k).map (.int .i64)) ∧ Ext w1 wr) (fun _ i _ => N - (intOf i).toNat)
  case atStart => exact ⟨0, _, _, _, Nat.zero_le _, rfl, rfl, by rw [HB0.out]; exact HI0.out, Ext.refl _⟩
  case round =>
    obtain ⟨k, ba, bn, bc, hk, rfl, rfl, hbest, hxr⟩ := hrel
    have hxw := (HX0.out.trans hx1).trans hxr
    by_cases hlt : k < N
    · obtain ⟨rb', ro', rv, row, hrr, hrow, hcr, hwr⟩ := Q3.out k hlt
      have hir := IntsAt.of_owns hwr
      cases hrr
      obtain ⟨a3, k3, rfl, g1, g2, _⟩ := hir.open
      have d0 := hxr.cell hcr
      have HWR := Lib.hid (owns_ext (owns_lower hwr HBS.out) hxr)
      have HIR := Lib.hid (hir.ext hxr)
      have HBW := Lib.hid hbest
      have HBE := Lib.hid (IntsAt.of_owns hbest)
      have HM := Lib.hid (List.mem_of_getElem? hrow.out)
      have HN1 := Lib.hid (bestUp_succ (c := c) hrow.out)
      obtain ⟨z0, z1, z2⟩ := HBC.out _ (hx1.trans hxr)
      have HS : Hid (∀ W1, Ext wr W1 → W1.cell? ⟨w.heap.size, 0, none⟩ = some (.slice la c.loads.length lk) ∧ W1.cell? ⟨w.heap.size, 1, none⟩ = some (.int .i64 c.bears) ∧ W1.cell? ⟨w.heap.size, 2, none⟩ = some (.slice fa c.far.length fk) ∧ W1.cell? ⟨rb, ro + k, none⟩ = some (.slice a3 row.length k3)) := fun W1 h => ⟨h.cell z0, h.cell z1, h.cell z2, h.cell d0⟩
      have x1 : decide ((k : Int) < (N : Int)) = true := by simpa using hlt
      have x1n : decide (k < N) = true := by simpa using hlt
      have x4 : (k : Int) < (N : Int) := by omega
      have x7 : (0 : Int) ≤ (k : Int) := by omega
      have HX := Lib.hid hxw
      have tok1 : True := trivial
      clear hcr hir hbest hwr
      cases hq : shorterB c row (bestUp c l k) with
      | true =>
        have HB : Hid (bestUp c l (k + 1) = row) := by unfold Hid; rw [HN1.out, stepT, if_pos hq]
        unfold shorterB at hq
        go_upto_region 6 with fail
        go_region_held3 (fun w' => w'.cell? ⟨w.heap.size, 0, none⟩ = some (.slice la c.loads.length lk) ∧ w'.cell? ⟨w.heap.size, 1, none⟩ = some (.int .i64 c.bears) ∧ w'.cell? ⟨w.heap.size, 2, none⟩ = some (.slice fa c.far.length fk) ∧ w'.cell? ⟨rb, ro + k, none⟩ = some (.slice a3 row.length k3))
          (first | go_keep | exact HS.out _ (by repeat (first | exact hx3 | exact hx2 | exact Ext.refl _ | apply Ext.drew)))
          (first
            | (go_at_call 66; have _t := tok1; refine (HLN.out _ (HX.out.drew) _ row HM.out (HIR.out.ext (Ext.refl wr).drew)).mono ?_; rintro e w2 ⟨rfl, hx2'⟩; have hx2 : Ext wr w2 := ((Ext.refl wr).drew).trans hx2'; clear tok1 _t)
            | (go_at_call 66; refine (HLN.out _ (HX.out.trans hx2) _ _ (HBM.out k) (HBE.out.ext hx2)).mono ?_; rintro e w3 ⟨rfl, hx3'⟩; have hx3 : Ext wr w3 := hx2.trans hx3'))
        have e0 := hx3.cell d0
        clear z0 z1 z2 d0
        go_wp2
        go_roundw
        case rel => exact ⟨k + 1, _, _, _, by omega, by go_num, rfl, by rw [HB.out]; exact owns_ext HWR.out hx3, hxr.trans hx3⟩
        case measure => simp [intOf]; omega
      | false =>
        have HB : Hid (bestUp c l (k + 1) = bestUp c l k) := by unfold Hid; rw [HN1.out, stepT, hq]; rfl
        unfold shorterB at hq
        go_upto_region 6 with fail
        go_region_held3 (fun w' => w'.cell? ⟨w.heap.size, 0, none⟩ = some (.slice la c.loads.length lk) ∧ w'.cell? ⟨w.heap.size, 1, none⟩ = some (.int .i64 c.bears) ∧ w'.cell? ⟨w.heap.size, 2, none⟩ = some (.slice fa c.far.length fk) ∧ w'.cell? ⟨rb, ro + k, none⟩ = some (.slice a3 row.length k3))
          (first | go_keep | exact HS.out _ (by repeat (first | exact hx3 | exact hx2 | exact Ext.refl _ | apply Ext.drew)))
          (first
            | (go_at_call 66; have _t := tok1; refine (HLN.out _ (HX.out.drew) _ row HM.out (HIR.out.ext (Ext.refl wr).drew)).mono ?_; rintro e w2 ⟨rfl, hx2'⟩; have hx2 : Ext wr w2 := ((Ext.refl wr).drew).trans hx2'; clear tok1 _t)
            | (go_at_call 66; refine (HLN.out _ (HX.out.trans hx2) _ _ (HBM.out k) (HBE.out.ext hx2)).mono ?_; rintro e w3 ⟨rfl, hx3'⟩; have hx3 : Ext wr w3 := hx2.trans hx3'))
        go_wp2
        go_roundw
        case rel => exact ⟨k + 1, _, _, _, by omega, by go_num, rfl, by rw [HB.out]; exact owns_ext HBW.out hx3, hxr.trans hx3⟩
        case measure => simp [intOf]; omega
    · have HEND := Lib.hid (bestUp_all c l (k := k) (by rw [HNN.out]; omega))
      have HB : Hid (wr.ownsRow w.heap.size 3 1 (.slice ba bn bc) (refTour c l).length ((refTour c l).map (.int .i64))) := by unfold Hid; rw [← HEND.out]; exact hbest
      have x1 : decide ((k : Int) < (N : Int)) = false := by simpa using hlt
      have x1n : decide (k < N) = false := by simpa using hlt
      clear hbest
      go_wp2
      go_ret
      exact ⟨_, rfl, hxw, HB.out⟩
theorem rtour_any (v hv : Value) (c : Roads) (l : List Int) (w : World) (hb : RoadsB c) (hc : RoadsAt w v c) (hl : IntsAt w hv l) (hs : ∀ n, n ∈ l → 1 ≤ n ∧ n ≤ c.loads.length) (hn : l.length ≤ 5) :
    Calls Tryz.prog 63 #[v, hv] w fun e w' => ∃ v1, e = .returned v1 ∧ Ext w w' ∧ IntsAt w' v1 (refTour c l) :=
  (rtour_own v hv c l w hb hc hl hs hn).mono fun _ _ ⟨v1, h1, h2, h3⟩ => ⟨v1, h1, h2, IntsAt.of_owns h3⟩
end Go.Proofs.YtapkbonlijhmjaaGreatDoor
