/- The reference's PlanLength. -/
import Derived.Test.YtapkbonlijhmjaaGreatDoorRroadsc
import Derived.Test.YtapkbonlijhmjaaGreatDoorPlanp
import Derived.Test.YtapkbonlijhmjaaGreatDoorSame
import Derived.Test.YtapkbonlijhmjaaGreatDoorBefore
import Derived.Test.YtapkbonlijhmjaaGreatDoorSearchr
namespace Go.Proofs.YtapkbonlijhmjaaGreatDoor
open Go.RowKit

theorem planLen_up {c : Roads} {P : List (List Int)} {k : Nat} {l : List Int} (h : P[k]? = some l) : planLen c (P.take (k + 1)) = planLen c (P.take k) + lengthOf c l := by
  unfold planLen; rw [List.take_add_one, h]; simp
set_option maxRecDepth 100000 in
set_option maxHeartbeats 4000000 in
theorem rplanLen_any (v pv : Value) (c : Roads) (P : List (List Int)) (w : World) (hb : RoadsB c) (hc : RoadsAt w v c) (hl : RowsAt w pv P) (hs : ∀ l, l ∈ P → ∀ n, n ∈ l → 1 ≤ n ∧ n ≤ c.loads.length) (hn : P.length ≤ 1000) (hlen : ∀ l, l ∈ P → l.length ≤ 1000) :
    Calls Tryz.prog 17 #[v, pv] w fun e w' => e = .returned (.int .i64 (planLen c P)) ∧ Ext w w' := by
  have hc' := hc
  obtain ⟨lv, fv, rfl, hll, hff⟩ := hc
  have HLN := Lib.hid (fun w1 (hx : Ext w w1) u l (hm : l ∈ P) (hu : IntsAt w1 u l) => rlength_any _ u c l w1 hb (hc'.ext hx) hu (hs l hm) (hlen l hm))
  have HRG := Lib.hid (fun l (hm : l ∈ P) => And.intro (lengthOf_range hb (hs l hm)) (hlen l hm))
  obtain ⟨la, lk, rfl, l1, l2, _⟩ := hll.open
  obtain ⟨fa, fk, rfl, f1, f2, _⟩ := hff.open
  obtain ⟨a, k0, rfl, h1, h2, h3⟩ := hl.open
  have hx0 : Ext w (w.alloc (boxC c la fa lk fk)) := (Ext.refl w).alloc _
  have HX0 := Lib.hid hx0
  have HBC := Lib.hid (fun W (h : Ext (w.alloc (boxC c la fa lk fk)) W) => boxC_cells ((h.block (by simp)).trans (World.alloc_heap_new w (boxC c la fa lk fk))))
  have H3 := Lib.hid h3
  have hmix : Tryz.prog.follows .mixedOrders = true := by kernel_rfl
  clear hll hff h3 hx0 hl hs hb hc' hlen
  go_enter Tryz.func17, Tryz.ntmps17
  go_wp2
  go_loopw [5, 6] (fun s i wr => ∃ k : Nat, k ≤ P.length ∧ i = .int .i64 k ∧ s = .int .i64 (planLen c (P.take k)) ∧ (0 ≤ planLen c (P.take k) ∧ planLen c (P.take k) ≤ 1001000 * k) ∧ Ext (w.alloc (boxC c la fa lk fk)) wr) (fun _ i _ => P.length - (intOf i).toNat)
  case atStart => exact ⟨0, Nat.zero_le _, rfl, rfl, by simp [planLen], Ext.refl _⟩
  case round =>
    obtain ⟨k, hk, rfl, rfl, ⟨s1, s2⟩, hxr⟩ := hrel
    have hxw := HX0.out.trans hxr
    by_cases hlt : k < P.length
    · obtain ⟨b, o, u, x, rfl, hxk, hcu, hux⟩ := H3.out k hlt
      obtain ⟨ua, uc, rfl, _⟩ := hux.open
      have HM := Lib.hid (List.mem_of_getElem? hxk.out)
      have HUX := Lib.hid (hux.ext hxw)
      have HS := Lib.hid (planLen_up (c := c) hxk.out)
      have hrg := HRG.out x HM.out
      have d := hxw.cell hcu
      obtain ⟨z0, z1, z2⟩ := HBC.out _ hxr
      have HSS : Hid (∀ W1, Ext wr W1 → W1.cell? ⟨w.heap.size, 0, none⟩ = some (.slice la c.loads.length lk) ∧ W1.cell? ⟨w.heap.size, 1, none⟩ = some (.int .i64 c.bears) ∧ W1.cell? ⟨w.heap.size, 2, none⟩ = some (.slice fa c.far.length fk) ∧ W1.cell? ⟨b, o + k, none⟩ = some (.slice ua x.length uc)) := fun W1 h => ⟨h.cell z0, h.cell z1, h.cell z2, h.cell d⟩
      have x1 : decide ((k : Int) < (P.length : Int)) = true := by simpa using hlt
      have x4 : (k : Int) < (P.length : Int) := by omega
      have x7 : (0 : Int) ≤ (k : Int) := by omega
      have HX := Lib.hid hxw
      clear hcu hux
      generalize hss : planLen c (P.take k) = ss at *
      obtain ⟨⟨q1, q2⟩, q3⟩ := hrg
      have E2 : IntKind.i64.wrap (ss + lengthOf c x) = ss + lengthOf c x := IntWalk.i64_in _ (by omega)
      have HBD : Hid (0 ≤ ss + lengthOf c x ∧ ss + lengthOf c x ≤ 1001000 * ((k : Int) + 1)) := ⟨by omega, by omega⟩
      clear hss q1 q2 q3 s1 s2
      go_upto_region 5 with fail
      go_region_held3 (fun w' => w'.cell? ⟨w.heap.size, 0, none⟩ = some (.slice la c.loads.length lk) ∧ w'.cell? ⟨w.heap.size, 1, none⟩ = some (.int .i64 c.bears) ∧ w'.cell? ⟨w.heap.size, 2, none⟩ = some (.slice fa c.far.length fk) ∧ w'.cell? ⟨b, o + k, none⟩ = some (.slice ua x.length uc))
        (first | go_keep | exact HSS.out _ (by repeat (first | exact hx3 | exact hx2 | exact Ext.refl _ | apply Ext.drew)))
        (first
          | (go_at_call 66; refine (HLN.out _ (HX.out.drew) _ x HM.out (HUX.out.ext (Ext.refl wr).drew)).mono ?_; rintro e w2 ⟨rfl, hx2'⟩; have hx2 : Ext wr w2 := ((Ext.refl wr).drew).trans hx2'; (try rw [E2])))
      all_goals (
        go_wp2
        go_roundw
        case rel => exact ⟨k + 1, by omega, by go_num, by rw [HS.out] <;> first | rfl | (rw [E2]), by rw [HS.out]; have := HBD.out; omega, hxr.trans hx2⟩
        case measure => simp [intOf]; omega)
    · have hke : k = P.length := by omega
      have HN : Hid (planLen c (P.take k) = planLen c P) := by unfold Hid; rw [List.take_of_length_le (by omega)]
      have x1 : decide ((k : Int) < (P.length : Int)) = false := by simpa using hlt
      clear hke s1 s2
      go_wp2
      go_ret
      exact ⟨by rw [← HN.out] <;> rfl, hxw⟩
end Go.Proofs.YtapkbonlijhmjaaGreatDoor

/- The reference's BeforePlan. -/
namespace Go.Proofs.YtapkbonlijhmjaaGreatDoor
open Go.RowKit

theorem befPB_at : ∀ {a b : List (List Int)} {k : Nat} {x y : List Int}, a.take k = b.take k → a[k]? = some x → b[k]? = some y → x ≠ y → befPB a b = befB x y
  | [], _, k, x, y, _, hx, _, _ => by simp at hx
  | u :: a, [], k, x, y, _, _, hy, _ => by simp at hy
  | u :: a, v :: b, 0, x, y, _, hx, hy, hne => by
    simp at hx hy
    subst hx hy
    unfold befPB
    rw [if_neg hne]
  | u :: a, v :: b, k + 1, x, y, ht, hx, hy, hne => by
    simp at ht hx hy
    obtain ⟨rfl, ht⟩ := ht
    unfold befPB
    rw [if_pos rfl]
    exact befPB_at ht hx hy hne
theorem befPB_end : ∀ {a b : List (List Int)} {k : Nat}, a.take k = b.take k → (k = a.length ∨ k = b.length) → k ≤ a.length → k ≤ b.length → befPB a b = false
  | [], b, k, _, _, _, _ => by unfold befPB; rfl
  | u :: a, [], k, _, _, _, _ => by unfold befPB; rfl
  | u :: a, v :: b, 0, _, h, _, _ => by simp at h
  | u :: a, v :: b, k + 1, ht, h, h1, h2 => by
    simp at ht h h1 h2
    obtain ⟨rfl, ht⟩ := ht
    unfold befPB
    rw [if_pos rfl]
    exact befPB_end ht h h1 h2
set_option maxRecDepth 100000 in
set_option maxHeartbeats 4000000 in
theorem rbefPlan_any (va vb : Value) (xs ys : List (List Int)) (w : World) (ha : RowsAt w va xs) (hb : RowsAt w vb ys) :
    Calls Tryz.prog 25 #[va, vb] w fun e w' => e = .returned (.bool (befPB xs ys)) ∧ Ext w w' := by
  obtain ⟨a, c, rfl, h1, h2, h3⟩ := ha.open
  obtain ⟨a', c', rfl, h1', h2', h3'⟩ := hb.open
  have hmix : Tryz.prog.follows .mixedOrders = true := by kernel_rfl
  have H3 := Lib.hid h3
  have H3' := Lib.hid h3'
  clear h3 h3' ha hb
  go_enter Tryz.func25, Tryz.ntmps25
  go_wp2
  go_loopw [5] (fun i wr => ∃ k : Nat, k ≤ xs.length ∧ k ≤ ys.length ∧ i = .int .i64 k ∧ Hid (xs.take k = ys.take k) ∧ Ext w wr) (fun i _ => xs.length - (intOf i).toNat)
  case atStart => exact ⟨0, Nat.zero_le _, Nat.zero_le _, rfl, by simp [Hid], Ext.refl _⟩
  case round =>
    obtain ⟨k, hk, hk', rfl, hE, hx⟩ := hrel
    by_cases hlt : k < xs.length
    · have x2 : decide ((k : Int) < (xs.length : Int)) = true := by simpa using hlt
      by_cases hlt' : k < ys.length
      · obtain ⟨b, o, u, x, rfl, hxk, hc, hux⟩ := H3.out k hlt
        obtain ⟨b', o', u', y, rfl, hyk, hc', huy⟩ := H3'.out k hlt'
        obtain ⟨ua, uc, rfl, _⟩ := hux.open
        obtain ⟨ua', uc', rfl, _⟩ := huy.open
        have d0 := hx.cell hc
        have d1 := hx.cell hc'
        have x3 : decide ((k : Int) < (ys.length : Int)) = true := by simpa using hlt'
        have x4 : (k : Int) < (xs.length : Int) := by omega
        have x5 : (k : Int) < (ys.length : Int) := by omega
        have HS := Lib.hid (fun w1 (hx : Ext w w1) => same_any _ _ x y w1 (hux.ext hx) (huy.ext hx))
        have HBF := Lib.hid (fun w1 (hx : Ext w w1) => rbefore_any _ _ x y w1 (hux.ext hx) (huy.ext hx))
        clear hc hc' hux huy
        cases hxy : decide (x = y) with
        | true =>
          have hs := Lib.hid (take_eq_succ hE.out hxk.out hyk.out (of_decide_eq_true hxy))
          rw [hxy] at HS
          clear hxy HBF
          go_upto_region 6 with fail
          go_region_held3 (fun w' => w'.cell? ⟨b, o + k, none⟩ = some (.slice ua x.length uc) ∧ w'.cell? ⟨b', o' + k, none⟩ = some (.slice ua' y.length uc')) (first | go_keep | exact ⟨hx1.cell (by go_simp), hx1.cell (by go_simp)⟩)
            (first
              | (go_at_call 49; refine (HS.out _ hx.drew).mono ?_; rintro e w1 ⟨rfl, hx1⟩))
          go_wp2
          exact ⟨⟨k + 1, by omega, by omega, by go_num, hs.out, hx.drew.trans hx1⟩, by simp [intOf]; omega⟩
        | false =>
          have HB := Lib.hid (befPB_at hE.out hxk.out hyk.out (of_decide_eq_false hxy))
          rw [hxy] at HS
          clear hxy
          go_upto_region 6 with fail
          go_region_held3 (fun w' => w'.cell? ⟨b, o + k, none⟩ = some (.slice ua x.length uc) ∧ w'.cell? ⟨b', o' + k, none⟩ = some (.slice ua' y.length uc')) (first | go_keep | exact ⟨hx1.cell (by go_simp), hx1.cell (by go_simp)⟩)
            (first
              | (go_at_call 49; refine (HS.out _ hx.drew).mono ?_; rintro e w1 ⟨rfl, hx1⟩))
          have hy1 := hx.drew.trans hx1
          have e0 := hx1.cell (show wr.drew.cell? ⟨b, o + k, none⟩ = some (.slice ua x.length uc) from d0)
          have e1 := hx1.cell (show wr.drew.cell? ⟨b', o' + k, none⟩ = some (.slice ua' y.length uc') from d1)
          clear d0 d1
          go_upto_region 6 with fail
          go_region_held3 (fun w' => w'.cell? ⟨b, o + k, none⟩ = some (.slice ua x.length uc) ∧ w'.cell? ⟨b', o' + k, none⟩ = some (.slice ua' y.length uc')) (first | go_keep | exact ⟨hx2.cell (by go_simp), hx2.cell (by go_simp)⟩)
            (first
              | (go_at_call 79; refine (HBF.out _ hy1.drew).mono ?_; rintro e w2 ⟨rfl, hx2⟩))
          go_wp2
          go_ret
          exact ⟨by rw [HB.out] <;> rfl, hy1.drew.trans hx2⟩
      · have hke : k = ys.length := by omega
        have x3 : decide ((k : Int) < (ys.length : Int)) = false := by simp; omega
        have HB := Lib.hid (befPB_end hE.out (.inr hke) hk hk')
        clear hke
        go_wp2
        go_ret
        exact ⟨by rw [HB.out] <;> rfl, hx⟩
    · have hke : k = xs.length := by omega
      have x2 : decide ((k : Int) < (xs.length : Int)) = false := by simp; omega
      have HB := Lib.hid (befPB_end hE.out (.inl hke) hk hk')
      clear hke
      go_wp2
      go_ret
      exact ⟨by rw [HB.out] <;> rfl, hx⟩
end Go.Proofs.YtapkbonlijhmjaaGreatDoor

/- The reference's Better. -/
namespace Go.Proofs.YtapkbonlijhmjaaGreatDoor
open Go.RowKit

set_option maxRecDepth 100000 in
set_option maxHeartbeats 4000000 in
theorem rbetter_any (v va vb : Value) (c : Roads) (x y : List (List Int)) (w : World) (hb : RoadsB c) (hc : RoadsAt w v c) (hx : RowsAt w va x) (hy : RowsAt w vb y)
    (hsx : ∀ l, l ∈ x → (∀ n, n ∈ l → 1 ≤ n ∧ n ≤ c.loads.length) ∧ l.length ≤ 1000) (hsy : ∀ l, l ∈ y → (∀ n, n ∈ l → 1 ≤ n ∧ n ≤ c.loads.length) ∧ l.length ≤ 1000) (hnx : x.length ≤ 1000) (hny : y.length ≤ 1000) :
    Calls Tryz.prog 65 #[v, va, vb] w fun e w' => e = .returned (.bool (betterR c x y)) ∧ Ext w w' := by
  have hc' := hc
  have hx' := hx
  have hy' := hy
  obtain ⟨lv, fv, rfl, hll, hff⟩ := hc
  obtain ⟨la, lk, rfl, l1, l2, _⟩ := hll.open
  obtain ⟨fa, fk, rfl, f1, f2, _⟩ := hff.open
  obtain ⟨xa, xc, rfl, x1, x2, _⟩ := hx.open
  obtain ⟨ya, yc, rfl, y1, y2, _⟩ := hy.open
  have hx0 : Ext w (w.alloc (boxC c la fa lk fk)) := (Ext.refl w).alloc _
  have HX0 := Lib.hid hx0
  have HBC := Lib.hid (fun W (h : Ext (w.alloc (boxC c la fa lk fk)) W) => boxC_cells ((h.block (by simp)).trans (World.alloc_heap_new w (boxC c la fa lk fk))))
  have HPX := Lib.hid (fun w1 (hx : Ext w w1) => rplanLen_any _ _ c x w1 hb (hc'.ext hx) (hx'.ext hx) (fun l hl => (hsx l hl).1) hnx (fun l hl => (hsx l hl).2))
  have HPY := Lib.hid (fun w1 (hx : Ext w w1) => rplanLen_any _ _ c y w1 hb (hc'.ext hx) (hy'.ext hx) (fun l hl => (hsy l hl).1) hny (fun l hl => (hsy l hl).2))
  have HBP := Lib.hid (fun w1 (hx : Ext w w1) => rbefPlan_any _ _ x y w1 (hx'.ext hx) (hy'.ext hx))
  have hmix : Tryz.prog.follows .mixedOrders = true := by kernel_rfl
  have tok1 : True := trivial
  by_cases hl : x.length = y.length
  · have HR : Hid (betterR c x y = (decide (planLen c x < planLen c y) || (decide (planLen c x = planLen c y) && befPB x y))) := by
      unfold Hid betterR; rw [if_neg (by simpa using hl)]
    have t1 : ((x.length : Int) != (y.length : Int)) = false := by simp [hl]
    obtain ⟨z0, z1, z2⟩ := HBC.out _ (Ext.refl _)
    have HS : Hid (∀ W, Ext (w.alloc (boxC c la fa lk fk)) W → W.cell? ⟨w.heap.size, 0, none⟩ = some (.slice la c.loads.length lk) ∧ W.cell? ⟨w.heap.size, 1, none⟩ = some (.int .i64 c.bears) ∧ W.cell? ⟨w.heap.size, 2, none⟩ = some (.slice fa c.far.length fk)) := HBC
    generalize planLen c x = p at *
    generalize planLen c y = q at *
    generalize befPB x y = bb at *
    clear hll hff hx hy hx' hy' hc' hx0 hb hsx hsy HBC
    clear hl
    go_enter Tryz.func65, Tryz.ntmps65
    go_upto_region 3 with fail
    go_region_held3 (fun w' => w'.cell? ⟨w.heap.size, 0, none⟩ = some (.slice la c.loads.length lk) ∧ w'.cell? ⟨w.heap.size, 1, none⟩ = some (.int .i64 c.bears) ∧ w'.cell? ⟨w.heap.size, 2, none⟩ = some (.slice fa c.far.length fk))
      (first | go_keep | exact HS.out _ (by repeat (first | exact hx3 | exact hx2 | exact Ext.refl _ | apply Ext.drew)))
      (first
        | (go_at_call 17; have _t := tok1; refine (HPX.out _ HX0.out.drew).mono ?_; rintro e w2 ⟨rfl, hx2'⟩; have hx2 : Ext (w.alloc (boxC c la fa lk fk)) w2 := ((Ext.refl _).drew).trans hx2'; clear tok1 _t)
        | (go_at_call 17; refine (HPY.out _ (HX0.out.trans hx2)).mono ?_; rintro e w3 ⟨rfl, hx3'⟩; have hx3 : Ext (w.alloc (boxC c la fa lk fk)) w3 := hx2.trans hx3'))
    cases h1 : decide (p < q) with
    | true =>
      rw [h1] at HR
      go_wp2
      go_ret
      exact ⟨by rw [HR.out] <;> rfl, HX0.out.trans hx3⟩
    | false =>
      rw [h1] at HR
      cases h2 : decide (p = q) with
      | false =>
        rw [h2] at HR
        have t2 : (p == q) = false := by rw [beq_eq_false_iff_ne]; exact of_decide_eq_false h2
        clear h2
        go_wp2
        go_ret
        exact ⟨by rw [HR.out] <;> rfl, HX0.out.trans hx3⟩
      | true =>
        rw [h2] at HR
        have t2 : (p == q) = true := by rw [beq_iff_eq]; exact of_decide_eq_true h2
        clear h2
        have HR' : Hid (betterR c x y = bb) := by unfold Hid; rw [HR.out]; cases bb <;> rfl
        go_wp2_with (go_at_call 25; refine (HBP.out _ (HX0.out.trans hx3)).mono ?_; rintro e w4 ⟨rfl, hx4⟩)
        go_ret
        exact ⟨by rw [HR'.out] <;> rfl, (HX0.out.trans hx3).trans hx4⟩
  · have HR : Hid (betterR c x y = decide (x.length < y.length)) := by
      unfold Hid betterR; rw [if_pos (by simpa using hl)]
    have HD : Hid (decide (x.length < y.length) = decide ((x.length : Int) < (y.length : Int))) := by unfold Hid; simp
    have t1 : ((x.length : Int) != (y.length : Int)) = true := by simp; omega
    clear hll hff hx hy hx' hy' hc' hx0 hb hsx hsy HBC HPX HPY HBP
    go_enter Tryz.func65, Tryz.ntmps65
    go_wp2
    go_ret
    exact ⟨by rw [HR.out, HD.out] <;> rfl, HX0.out⟩
end Go.Proofs.YtapkbonlijhmjaaGreatDoor
