/- The reference's IsPlan. -/
import Derived.Test.YtapkbonlijhmjaaGreatDoorMet
import Derived.Test.YtapkbonlijhmjaaGreatDoorRroadsc
namespace Go.Proofs.YtapkbonlijhmjaaGreatDoor
open Go.RowKit

theorem info_int8 : (Tryz.prog.info? 3).map (fun i => (i.zero, i.size, i.bytes)) = some (some (.int .i64 0), 1, 8) := by kernel_rfl
theorem made_metN (n : Nat) : (madeCells (Value.int .i64 0).cells (n * 1)).toList = (metN [] n).map (.int .i64) := by
  rw [show (Value.int .i64 0).cells = #[.int .i64 0] from rfl, toList_madeCells_one]
  refine List.ext_getElem? fun i => ?_
  rw [List.getElem?_replicate, List.getElem?_map]
  by_cases h : i < n
  · rw [if_pos (by omega), metN_at h]; simp
  · rw [if_neg (by omega), List.getElem?_eq_none (by rw [metN_len]; omega)]; rfl
theorem metN_put {F : List Int} {n a : Nat} : ((metN F n).map (Value.int .i64)).set a (.int .i64 ((F.count (a : Int) : Int) + 1)) = (metN (F ++ [(a : Int)]) n).map (.int .i64) := by
  rw [← metN_set, List.map_set]
theorem metN_cell {F : List Int} {n a : Nat} (h : a < n) : ((metN F n).map (Value.int .i64))[a]? = some (.int .i64 (F.count (a : Int) : Int)) := by
  rw [List.getElem?_map, metN_at h]; rfl
set_option maxRecDepth 100000 in
set_option maxHeartbeats 16000000 in
theorem risPlan_any (v pv : Value) (c : Roads) (P : List (List Int)) (w : World) (hb : RoadsB c) (hc : RoadsAt w v c) (hl : RowsAt w pv P) (hs : StopsOk c P) (h7 : P.length ≤ 7 ∧ ∀ l, l ∈ P → l.length ≤ 7) :
    Calls Tryz.prog 24 #[v, pv] w fun e w' => e = .returned (.bool (isPlanB c P)) ∧ Ext w w' := by
  have hc' := hc
  obtain ⟨lv, fv, rfl, hll, hff⟩ := hc
  have HLD := Lib.hid (fun w1 (hx : Ext w w1) u l (hu : IntsAt w1 u l) (hm : l ∈ P) => rload_any _ u c l w1 hb (hc'.ext hx) hu (hs l hm) (by have := h7.2 l hm; omega))
  obtain ⟨la, lk, rfl, l1, l2, _⟩ := hll.open
  obtain ⟨fa, fk, rfl, f1, f2, _⟩ := hff.open
  obtain ⟨pa, pk, rfl, p1, p2, p3⟩ := hl.open
  have hx0 : Ext w (w.alloc (boxC c la fa lk fk)) := (Ext.refl w).alloc _
  have HX0 := Lib.hid hx0
  have HBC := Lib.hid (fun W (h : Ext (w.alloc (boxC c la fa lk fk)) W) => boxC_cells ((h.block (by simp)).trans (World.alloc_heap_new w (boxC c la fa lk fk))))
  have HST := Lib.hid hs
  have H7 := Lib.hid h7
  have hp7 := h7.1
  have hn5 := hb.n2
  have P3 := Lib.hid p3
  obtain ⟨i0, hi, hz0, hz1, hz2⟩ := info_parts info_int8
  obtain ⟨N, hN⟩ : ∃ N, N = c.loads.length + 1 := ⟨_, rfl⟩
  have HN := Lib.hid hN
  have hN6 : N ≤ 6 := by omega
  have HSB := Lib.hid (show i0.bytes * N ≤ 281474976710656 ∧ N ≤ maxLen by rw [hz2]; unfold maxLen; omega)
  have E1 : IntKind.i64.wrap ((c.loads.length : Int) + 1) = (c.loads.length : Int) + 1 := IntWalk.i64_in _ (by omega)
  have hmix : Tryz.prog.follows .mixedOrders = true := by kernel_rfl
  clear hll hff p3 hx0 hl hs hb hc' h7 hN
  go_enter Tryz.func24, Tryz.ntmps24
  obtain ⟨z0, z1, z2⟩ := HBC.out _ (Ext.refl _)
  go_wp2_with (refine wpList_make_full _ rfl _ _ _ rfl (w.alloc (boxC c la fa lk fk)).heap.size _ i0 _ 1 Tryz.underlying22 hi hz0 hz1 .i64 .i64 _ _ N rfl rfl (by have := HN.out; omega) (by have := HN.out; omega) HSB.out.1 HSB.out.2 (Nat.le_refl _) ?_; intro w3 hown3 hg3; have hx3 := Ext.grown (Ext.refl (w.alloc (boxC c la fa lk fk))) hg3 (fun k hk => by cases hk); have HO3 := Lib.hid hown3; clear hown3 hg3)
  have hO3 := HO3.out
  rw [made_metN] at hO3
  have hB1 : (w.alloc (boxC c la fa lk fk)).heap.size = w.heap.size + 1 := by simp
  rw [hB1] at hO3
  have HO := Lib.hid hO3
  clear HO3 hO3 hB1 hi hz0 hz1 hz2 HSB E1 z0 z1 z2 hn5
  go_loopw [6] (fun q wr => ∃ (k : Nat) (F : List Int), k ≤ P.length ∧ q = .int .i64 k ∧ wr.ownsRow (w.heap.size + 1) 3 1 (.slice (some ⟨w.heap.size + 1, 0, none⟩) N N) N ((metN F N).map (.int .i64)) ∧ Hid (F = (P.take k).flatten ∧ F.length ≤ 7 * k ∧ ∀ l, l ∈ P.take k → l.length ≠ 0 ∧ loadOf c l ≤ c.bears) ∧ Ext (w.alloc (boxC c la fa lk fk)) wr) (fun q _ => P.length - (intOf q).toNat)
  case atStart => exact ⟨0, [], Nat.zero_le _, rfl, HO.out, ⟨by simp, by simp, fun l h => by simp at h⟩, hx3⟩
  case round =>
    clear HO
    obtain ⟨k, F, hk, rfl, hown, hF, hx⟩ := hrel
    by_cases hlt : k < P.length
    · obtain ⟨b, o, lv', l, rfl, hlk, hcl, hil⟩ := P3.out k hlt
      have HMEM := Lib.hid (List.mem_of_getElem? hlk.out)
      have hl7 := H7.out.2 l HMEM.out
      obtain ⟨z0, z1, z2⟩ := HBC.out _ hx
      have HXW := Lib.hid (HX0.out.trans hx)
      have HIL := Lib.hid (hil.ext HXW.out)
      obtain ⟨ya, yc, rfl, i1, i2, i3⟩ := hil.open
      have I3 := Lib.hid i3
      have d0 := HXW.out.cell hcl
      have HCL := Lib.hid hcl
      have x1 : decide ((k : Int) < (P.length : Int)) = true := by simpa using hlt
      have x2 : (k : Int) < (P.length : Int) := by omega
      have x3 : (0 : Int) ≤ (k : Int) := by omega
      have HO := Lib.hid hown
      clear hil hcl i3 hown
      by_cases he : l.length = 0
      · have HE := Lib.hid (plan_no_empty (c := c) HMEM.out he)
        have t1 : ((l.length : Int) == 0) = true := by rw [beq_iff_eq]; omega
        have t2 : (l.length == 0) = true := by rw [beq_iff_eq]; omega
        clear he
        go_upto_region 5 with fail
        go_quiet (fail)
        go_wp2
        go_ret
        exact ⟨by rw [HE.out] <;> rfl, HXW.out.drewN _⟩
      · have t1 : ((l.length : Int) == 0) = false := by rw [beq_eq_false_iff_ne]; omega
        have t2 : (l.length == 0) = false := by rw [beq_eq_false_iff_ne]; omega
        have HNE := Lib.hid he
        have HS : Hid (∀ W, Ext wr W → W.cell? ⟨w.heap.size, 0, none⟩ = some (.slice la c.loads.length lk) ∧ W.cell? ⟨w.heap.size, 1, none⟩ = some (.int .i64 c.bears) ∧ W.cell? ⟨w.heap.size, 2, none⟩ = some (.slice fa c.far.length fk) ∧ W.cell? ⟨b, o + k, none⟩ = some (.slice ya l.length yc)) := fun W h => ⟨h.cell z0, h.cell z1, h.cell z2, h.cell d0⟩
        clear he
        by_cases hld : c.bears < loadOf c l
        · have HE := Lib.hid (plan_no_heavy (c := c) HMEM.out hld)
          have t3 : decide (c.bears < loadOf c l) = true := by simpa using hld
          clear hld
          go_upto_region 5 with fail
          go_region_held3 (fun w' => w'.cell? ⟨w.heap.size, 0, none⟩ = some (.slice la c.loads.length lk) ∧ w'.cell? ⟨w.heap.size, 1, none⟩ = some (.int .i64 c.bears) ∧ w'.cell? ⟨w.heap.size, 2, none⟩ = some (.slice fa c.far.length fk) ∧ w'.cell? ⟨b, o + k, none⟩ = some (.slice ya l.length yc))
            (first | go_keep | exact HS.out _ hx4)
            (first | (go_at_call 62; refine (HLD.out _ HXW.out.drew _ l (HIL.out.ext (Ext.refl wr).drew) HMEM.out).mono ?_; rintro e w4 ⟨rfl, hx4'⟩; have hx4 : Ext wr w4 := ((Ext.refl wr).drew).trans hx4'))
          go_wp2
          go_ret
          exact ⟨by rw [HE.out] <;> rfl, HXW.out.trans hx4⟩
        · have HLE := Lib.hid (show loadOf c l ≤ c.bears by omega)
          have t3 : decide (c.bears < loadOf c l) = false := by simpa using hld
          clear hld
          go_upto_region 5 with fail
          go_region_held3 (fun w' => w'.cell? ⟨w.heap.size, 0, none⟩ = some (.slice la c.loads.length lk) ∧ w'.cell? ⟨w.heap.size, 1, none⟩ = some (.int .i64 c.bears) ∧ w'.cell? ⟨w.heap.size, 2, none⟩ = some (.slice fa c.far.length fk) ∧ w'.cell? ⟨b, o + k, none⟩ = some (.slice ya l.length yc))
            (first | go_keep | exact HS.out _ hx4)
            (first | (go_at_call 62; refine (HLD.out _ HXW.out.drew _ l (HIL.out.ext (Ext.refl wr).drew) HMEM.out).mono ?_; rintro e w4 ⟨rfl, hx4'⟩; have hx4 : Ext wr w4 := ((Ext.refl wr).drew).trans hx4'))
          have HO4 := Lib.hid (owns_ext HO.out hx4)
          have hx5 := hx.trans hx4
          clear HO z0 z1 z2 d0 t1 t2
          go_wp2
          clear t3 x1
          go_loopw [7] (fun q wr => ∃ (j : Nat) (G : List Int), j ≤ l.length ∧ q = .int .i64 j ∧ wr.ownsRow (w.heap.size + 1) 3 1 (.slice (some ⟨w.heap.size + 1, 0, none⟩) N N) N ((metN G N).map (.int .i64)) ∧ Hid (G = (P.take k).flatten ++ l.take j ∧ G.length ≤ 7 * k + j) ∧ Ext (w.alloc (boxC c la fa lk fk)) wr) (fun q _ => l.length - (intOf q).toNat)
          case atStart => exact ⟨0, F, Nat.zero_le _, rfl, HO4.out, ⟨by rw [hF.out.1]; simp, by have := hF.out.2.1; omega⟩, hx5⟩
          case round =>
            clear HO4
            obtain ⟨j, G, hj, rfl, hown, hG, hxr⟩ := hrel
            have d0 := (HX0.out.trans hxr).cell HCL.out
            by_cases hlj : j < l.length
            · obtain ⟨b', o', y, rfl, hyj, hcy⟩ := I3.out j hlj
              obtain ⟨g1, g2⟩ := HST.out l HMEM.out y (List.mem_of_getElem? hyj.out)
              obtain ⟨a, rfl⟩ : ∃ a : Nat, y = (a : Int) := ⟨y.toNat, by omega⟩
              have ha : a < N := by have := HN.out; omega
              have d1 := (HX0.out.trans hxr).cell hcy
              have q1 : wr.cell? ⟨w.heap.size + 1, a, none⟩ = some (.int .i64 (G.count (a : Int) : Int)) := by rw [hown.cellAt a (by omega), metN_cell ha]
              have f1 := hown.frozenAt a
              have hcnt : (G.count (a : Int)) ≤ 1000 := by have := List.count_le_length (a := (a : Int)) (l := G); have := hG.out.2; omega
              have x1 : decide ((j : Int) < (l.length : Int)) = true := by simpa using hlj
              have x4 : (j : Int) < (l.length : Int) := by omega
              have x5 : (0 : Int) ≤ (j : Int) := by omega
              have x6 : (a : Int) < (N : Int) := by omega
              have x7 : (0 : Int) ≤ (a : Int) := by omega
              have hown2 := (hown.stored a (.int .i64 ((G.count (a : Int) : Int) + 1))).1
              rw [metN_put] at hown2
              have HO2 := Lib.hid hown2
              have HX2 := Lib.hid (hxr.setCell (p := ⟨w.heap.size + 1, a, none⟩) (by simp) (.int .i64 ((G.count (a : Int) : Int) + 1)))
              have HGN : Hid (G ++ [(a : Int)] = (P.take k).flatten ++ l.take (j + 1) ∧ (G ++ [(a : Int)]).length ≤ 7 * k + (j + 1)) := by
                refine ⟨by rw [hG.out.1, List.take_add_one, hyj.out, Option.toList_some, List.append_assoc], ?_⟩
                rw [List.length_append, List.length_singleton]; have := hG.out.2; omega
              generalize G.count (a : Int) = cnt at *
              have E2 : IntKind.i64.wrap ((cnt : Int) + 1) = (cnt : Int) + 1 := IntWalk.i64_in _ (by omega)
              clear hcy g1 g2 hown hown2
              go_wp2
              refine ⟨⟨j + 1, G ++ [(a : Int)], by omega, by go_num, HO2.out, HGN.out, HX2.out⟩, by simp [intOf]; omega⟩
            · have hje : j = l.length := by omega
              have hG1 := hG.out.1
              rw [show l.take j = l from List.take_of_length_le (by omega), ← flat_take hlk.out] at hG1
              have HEN : Hid (G = (P.take (k + 1)).flatten ∧ G.length ≤ 7 * (k + 1) ∧ ∀ l, l ∈ P.take (k + 1) → l.length ≠ 0 ∧ loadOf c l ≤ c.bears) := ⟨hG1, by have := hG.out.2; omega, fun z hz => by
                rw [List.take_add_one, hlk.out, List.mem_append] at hz
                rcases hz with hz | hz
                · exact hF.out.2.2 z hz
                · rw [show z = l by simpa using hz]; exact ⟨HNE.out, HLE.out⟩⟩
              have x1 : decide ((j : Int) < (l.length : Int)) = false := by simpa using hlj
              have HO := Lib.hid hown
              clear hje hG1 hown
              go_wp2
              refine ⟨⟨k + 1, G, by omega, by go_num, HO.out, HEN.out, hxr⟩, by simp [intOf]; omega⟩
    · have hke : k = P.length := by omega
      have htk : P.take k = P := List.take_of_length_le (by omega)
      have hF1 := hF.out
      rw [htk] at hF1
      have HF1 := Lib.hid hF1
      have x1 : decide ((k : Int) < (P.length : Int)) = false := by simpa using hlt
      have HO := Lib.hid hown
      clear hF1 hke htk hown
      go_wp2
      clear x1
      go_loopw [8] (fun q wr => ∃ (i : Nat), 1 ≤ i ∧ i ≤ N ∧ q = .int .i64 i ∧ wr.ownsRow (w.heap.size + 1) 3 1 (.slice (some ⟨w.heap.size + 1, 0, none⟩) N N) N ((metN F N).map (.int .i64)) ∧ Hid (∀ j : Nat, 1 ≤ j → j < i → P.flatten.count (j : Int) = 1) ∧ Ext (w.alloc (boxC c la fa lk fk)) wr) (fun q _ => N - (intOf q).toNat)
      case atStart => exact ⟨1, Nat.le_refl _, by have := HN.out; omega, rfl, HO.out, fun j h1 h2 => by omega, hx⟩
      case round =>
        clear HO
        obtain ⟨i, hi1, hi2, rfl, hown, hall, hxr⟩ := hrel
        by_cases hli : i < N
        · have q1 : wr.cell? ⟨w.heap.size + 1, i, none⟩ = some (.int .i64 (F.count (i : Int) : Int)) := by rw [hown.cellAt i (by omega), metN_cell hli]
          have x1 : decide ((i : Int) < (N : Int)) = true := by simpa using hli
          have x6 : (i : Int) < (N : Int) := by omega
          have x7 : (0 : Int) ≤ (i : Int) := by omega
          have HXW := Lib.hid (HX0.out.trans hxr)
          have HO := Lib.hid hown
          have HFC : Hid (F.count (i : Int) = P.flatten.count (i : Int)) := by unfold Hid; rw [HF1.out.1]
          clear hown
          by_cases h1 : F.count (i : Int) = 1
          · have HAL : Hid (∀ j : Nat, 1 ≤ j → j < i + 1 → P.flatten.count (j : Int) = 1) := fun j g1 g2 => by
              by_cases e : j = i
              · subst e; rw [← HFC.out]; exact h1
              · exact hall.out j g1 (by omega)
            rw [h1] at q1
            clear h1
            go_wp2
            refine ⟨⟨i + 1, by omega, by omega, by go_num, HO.out, HAL.out, hxr⟩, by simp [intOf]; omega⟩
          · have HE : Hid (isPlanB c P = false) := by
              unfold Hid
              cases hp : isPlanB c P with
              | false => rfl
              | true => exact absurd (HFC.out.trans (plan_counts HST.out hp i hi1 (by have := HN.out; omega))) h1
            have t1 : ((F.count (i : Int) : Int) != 1) = true := by simp; omega
            have t2 : (F.count (i : Int) != 1) = true := by simpa using h1
            generalize F.count (i : Int) = cnt at q1 t1 t2
            clear h1
            go_wp2
            go_ret
            exact ⟨by rw [HE.out] <;> rfl, HXW.out⟩
        · have HE := Lib.hid (plan_of_counts HST.out (fun l hl => (HF1.out.2.2 l hl).1) (fun l hl => (HF1.out.2.2 l hl).2) (fun j g1 g2 => hall.out j g1 (by have := HN.out; omega)))
          have x1 : decide ((i : Int) < (N : Int)) = false := by simpa using hli
          clear hown
          go_wp2
          go_ret
          exact ⟨by rw [HE.out] <;> rfl, HX0.out.trans hxr⟩
end Go.Proofs.YtapkbonlijhmjaaGreatDoor
