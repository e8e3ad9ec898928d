/- card.Keeps: whether lists of houses are a plan, and its length. -/
import Derived.Test.YtapkbonlijhmjaaGreatDoorKeepsc
namespace Go.Proofs.YtapkbonlijhmjaaGreatDoor
open Go.RowKit

/-- What Keeps answers. -/
def KeepsRes (c : Roads) (P : List (List Int)) (w : World) (e : Ending) (w' : World) : Prop :=
  ∃ (b : Bool) (d err : Int), e = .returned (.tuple #[.bool b, .int .i64 d, .int .i64 err]) ∧ Ext w w' ∧
    (isRoadsB c = false ∨ someP c P = false → b = false ∧ d = 0 ∧ err = 2) ∧ (isRoadsB c = true → someP c P = true → err = 0 ∧ b = isPlanB c P ∧ (b = true → d = planLen c P) ∧ (b = false → d = 0))
theorem info_boolk : (Tryz.prog.info? 4).map (fun i => (i.zero, i.size, i.bytes)) = some (some (.bool false), 1, 1) := by kernel_rfl
theorem bad_not {c : Roads} {P : List (List Int)} (h1 : isRoadsB c = true) (h2 : someP c P = true) : ¬ (isRoadsB c = false ∨ someP c P = false) := by
  rw [h1, h2]; simp
theorem keeps_bad {c : Roads} {P : List (List Int)} {w w' : World} (h : isRoadsB c = false ∨ someP c P = false) (hx : Ext w w') : KeepsRes c P w (.returned (.tuple #[.bool false, .int .i64 0, .int .i64 2])) w' :=
  ⟨false, 0, 2, rfl, hx, fun _ => ⟨rfl, rfl, rfl⟩, fun h1 h2 => absurd h (bad_not h1 h2)⟩
theorem keeps_no {c : Roads} {P : List (List Int)} {w w' : World} (h1 : isRoadsB c = true) (h2 : someP c P = true) (hp : isPlanB c P = false) (hx : Ext w w') : KeepsRes c P w (.returned (.tuple #[.bool false, .int .i64 0, .int .i64 0])) w' :=
  ⟨false, 0, 0, rfl, hx, fun h => absurd h (bad_not h1 h2), fun _ _ => ⟨rfl, hp.symm, (fun h => by cases h), fun _ => rfl⟩⟩
theorem keeps_yes {c : Roads} {P : List (List Int)} {w w' : World} (h1 : isRoadsB c = true) (h2 : someP c P = true) (hp : isPlanB c P = true) (hx : Ext w w') : KeepsRes c P w (.returned (.tuple #[.bool true, .int .i64 (planLen c P), .int .i64 0])) w' :=
  ⟨true, _, 0, rfl, hx, fun h => absurd h (bad_not h1 h2), fun _ _ => ⟨rfl, hp.symm, fun _ => rfl, (fun h => by cases h)⟩⟩
abbrev boxP (pa : Option Addr) (n pk : Nat) : Obj := .cells #[.slice pa n pk] 23
theorem two_blocks (w : World) (x y : Obj) : ((w.alloc x).alloc y).heap[w.heap.size]? = some x ∧ ((w.alloc x).alloc y).heap[w.heap.size + 1]? = some y := by
  constructor
  · rw [← World.alloc_heap_new w x]
    exact ((Ext.refl _).alloc y).block (by simp)
  · have := World.alloc_heap_new (w.alloc x) y
    rwa [World.size_alloc] at this
theorem made_met (n : Nat) : (madeCells (Value.bool false).cells (n * 1)).toList = (metB [] n).map Value.bool := by
  rw [show (Value.bool false).cells = #[.bool false] from rfl, toList_madeCells_one]
  refine List.ext_getElem? fun i => ?_
  rw [List.getElem?_replicate, List.getElem?_map]
  by_cases h : i < n
  · rw [if_pos (by omega), metB_at h]; simp
  · rw [if_neg (by omega), List.getElem?_eq_none (by rw [metB_len]; omega)]; rfl
theorem met_put {F : List Int} {n a : Nat} : ((metB F n).map Value.bool).set a (.bool true) = (metB (F ++ [(a : Int) + 1]) n).map Value.bool := by
  rw [← metB_set, List.map_set]
theorem met_cell {F : List Int} {n a : Nat} (h : a < n) : ((metB F n).map Value.bool)[a]? = some (.bool (decide ((a : Int) + 1 ∈ F))) := by
  rw [List.getElem?_map, metB_at h]; rfl
theorem twice_not {P : List (List Int)} {k j : Nat} {l : List Int} {y : Int} (hl : P[k]? = some l) (hy : l[j]? = some y) (hm : y ∈ (P.take k).flatten ++ l.take j) : ¬ P.flatten.Nodup := by
  intro h
  have h1 := (flat_sub hl (j + 1)).nodup h
  rw [List.take_add_one, hy, Option.toList_some, ← List.append_assoc, List.nodup_append] at h1
  exact h1.2.2 y hm y (by simp) rfl
theorem once_more {P : List (List Int)} {k j : Nat} {l : List Int} {y : Int} (hd : ((P.take k).flatten ++ l.take j).Nodup) (hy : l[j]? = some y) (hm : y ∉ (P.take k).flatten ++ l.take j) : ((P.take k).flatten ++ l.take (j + 1)) = ((P.take k).flatten ++ l.take j) ++ [y] ∧ (((P.take k).flatten ++ l.take j) ++ [y]).Nodup := by
  refine ⟨by rw [List.take_add_one, hy, Option.toList_some, List.append_assoc], ?_⟩
  rw [List.nodup_append]
  exact ⟨hd, by simp, fun a ha b hb e => by rw [List.mem_singleton.1 hb] at e; exact hm (e ▸ ha)⟩
theorem keeps_start (W : World) : KSt W W.heap.size (W.heap.size + 1) 0 ((W.alloc (.cells #[.int .i64 0] 3)).alloc (.cells #[.bool false] 4)) := by
  obtain ⟨h1, h2⟩ := two_blocks W (.cells #[.int .i64 0] 3) (.cells #[.bool false] 4)
  refine ⟨((Ext.refl W).alloc _).alloc _, ?_⟩
  generalize (W.alloc (.cells #[.int .i64 0] 3)).alloc (.cells #[.bool false] 4) = W2 at *
  refine ⟨?_, ?_, ?_, ?_⟩
  · simp [World.cell?, h1]
  · simp [World.frozen?, h1]
  · simp [World.cell?, h2]
  · simp [World.frozen?, h2]
/-- The world of the boxes of Keeps. -/
def KBox (c : Roads) (la fa : Option Addr) (lk fk : Nat) (pa : Option Addr) (n pk : Nat) (w W : World) : Prop := BoxAt c la fa lk fk w.heap.size W ∧ W.cell? ⟨w.heap.size + 1, 0, none⟩ = some (.slice pa n pk)
theorem kbox_first (c : Roads) (la fa : Option Addr) (lk fk : Nat) (pa : Option Addr) (n pk : Nat) (w W : World) (h : Ext ((w.alloc (boxC c la fa lk fk)).alloc (boxP pa n pk)) W) : KBox c la fa lk fk pa n pk w W := by
  obtain ⟨h1, h2⟩ := two_blocks w (boxC c la fa lk fk) (boxP pa n pk)
  refine ⟨boxC_cells ((h.block (by simp; omega)).trans h1), ?_⟩
  have := (h.block (b := w.heap.size + 1) (by simp)).trans h2
  simp [World.cell?, this]
set_option maxRecDepth 100000 in
set_option maxHeartbeats 4000000 in
theorem keeps_e0 (v pv : Value) (c : Roads) (P : List (List Int)) (w : World) (hR : RoadsAt w v c) (hP : RowsAt w pv P) (hr : isRoadsB c = false) : Calls Tryz.prog 22 #[v, pv] w (KeepsRes c P w) := by
  have hR' := hR
  have HRO := Lib.hid (fun w1 (hx : Ext w w1) => isRoads_any _ c w1 (hR'.ext hx))
  obtain ⟨lv, fv, rfl, hll, hff⟩ := hR
  obtain ⟨la, lk, rfl, l1, l2, _⟩ := hll.open
  obtain ⟨fa, fk, rfl, f1, f2, _⟩ := hff.open
  obtain ⟨pa, pk, rfl, p1, p2, _⟩ := hP.open
  have hx0 : Ext w ((w.alloc (boxC c la fa lk fk)).alloc (boxP pa P.length pk)) := ((Ext.refl w).alloc _).alloc _
  have HX0 := Lib.hid hx0
  have HKB := Lib.hid (kbox_first c la fa lk fk pa P.length pk w)
  have HF := Lib.hid (fun w' (hx : Ext w w') => keeps_bad (P := P) (.inl hr) hx)
  rw [hr] at HRO
  clear hR' hll hff hP hx0 hr
  go_enter Tryz.func22, Tryz.ntmps22
  obtain ⟨⟨z0, z1, z2⟩, y0⟩ := HKB.out _ (Ext.refl _)
  go_wp2_with (go_at_call 50; refine (HRO.out _ HX0.out).mono ?_; rintro e w1 ⟨rfl, hx1⟩)
  go_ret3
  exact HF.out _ (HX0.out.trans hx1)
set_option maxRecDepth 100000 in
set_option maxHeartbeats 4000000 in
theorem keeps_e1 (v pv : Value) (c : Roads) (P : List (List Int)) (w : World) (hR : RoadsAt w v c) (hP : RowsAt w pv P) (hr : isRoadsB c = true) (hs : someP c P = false) : Calls Tryz.prog 22 #[v, pv] w (KeepsRes c P w) := by
  have hR' := hR
  have hP' := hP
  have HRO := Lib.hid (fun w1 (hx : Ext w w1) => isRoads_any _ c w1 (hR'.ext hx))
  obtain ⟨lv, fv, rfl, hll, hff⟩ := hR
  obtain ⟨la, lk, rfl, l1, l2, _⟩ := hll.open
  obtain ⟨fa, fk, rfl, f1, f2, _⟩ := hff.open
  obtain ⟨pa, pk, rfl, p1, p2, _⟩ := hP.open
  have hx0 : Ext w ((w.alloc (boxC c la fa lk fk)).alloc (boxP pa P.length pk)) := ((Ext.refl w).alloc _).alloc _
  have HX0 := Lib.hid hx0
  have HKB := Lib.hid (kbox_first c la fa lk fk pa P.length pk w)
  have HSO := Lib.hid (fun w1 (hx : Ext ((w.alloc (boxC c la fa lk fk)).alloc (boxP pa P.length pk)) w1) => keepsBad_any c la fa lk fk w.heap.size _ P w1 (hP'.ext (hx0.trans hx)) (hR'.ext (hx0.trans hx)) (kbox_first c la fa lk fk pa P.length pk w w1 hx).1)
  have HF := Lib.hid (fun w' (hx : Ext w w') => keeps_bad (c := c) (.inr hs) hx)
  rw [hr] at HRO
  rw [hs] at HSO
  clear hR' hP' hll hff hP hx0 hr hs
  have hmf : ∀ (fn : Fn) (first cap : Array Value) (w : World), (Instr.makeFunc fn first cap).run Tryz.prog w = .ok (.func fn first cap) w := fun _ _ _ _ => rfl
  go_enter Tryz.func22, Tryz.ntmps22
  obtain ⟨⟨z0, z1, z2⟩, y0⟩ := HKB.out _ (Ext.refl _)
  go_wp2_with (first
    | (go_at_call 50; refine (HRO.out _ HX0.out).mono ?_; rintro e w1 ⟨rfl, hx1⟩; clear z0 z1 z2 y0; obtain ⟨⟨z0, z1, z2⟩, y0⟩ := HKB.out _ hx1)
    | (go_at_call 70; refine (HSO.out _ hx1).mono ?_; rintro e w2 ⟨rfl, hx2⟩))
  go_ret3
  exact HF.out _ (HX0.out.trans (hx1.trans hx2))
set_option maxRecDepth 100000 in
set_option maxHeartbeats 16000000 in
theorem keeps_l (v pv : Value) (c : Roads) (P : List (List Int)) (w : World) (hR : RoadsAt w v c) (hP : RowsAt w pv P) (hr : isRoadsB c = true) (hs : someP c P = true) (h7 : P.length ≤ 7 ∧ ∀ l, l ∈ P → l.length ≤ 7) : Calls Tryz.prog 22 #[v, pv] w (KeepsRes c P w) := by
  have hR' := hR
  have hP' := hP
  have HRO := Lib.hid (fun w1 (hx : Ext w w1) => isRoads_any _ c w1 (hR'.ext hx))
  have hB := roadsB_of hr
  have hst := someP_stop hs
  have hn5 := hB.n2
  obtain ⟨lv, fv, rfl, hll, hff⟩ := hR
  obtain ⟨la, lk, rfl, l1, l2, _⟩ := hll.open
  obtain ⟨fa, fk, rfl, f1, f2, _⟩ := hff.open
  obtain ⟨pa, pk, rfl, p1, p2, p3⟩ := hP.open
  have hx0 : Ext w ((w.alloc (boxC c la fa lk fk)).alloc (boxP pa P.length pk)) := ((Ext.refl w).alloc _).alloc _
  have HX0 := Lib.hid hx0
  have HKB := Lib.hid (kbox_first c la fa lk fk pa P.length pk w)
  have HSO := Lib.hid (fun w1 (hx : Ext ((w.alloc (boxC c la fa lk fk)).alloc (boxP pa P.length pk)) w1) => keepsBad_any c la fa lk fk w.heap.size _ P w1 (hP'.ext (hx0.trans hx)) (hR'.ext (hx0.trans hx)) (kbox_first c la fa lk fk pa P.length pk w w1 hx).1)
  have HNO := Lib.hid (fun w' (hp : isPlanB c P = false) (hx : Ext w w') => keeps_no hr hs hp hx)
  have HYES := Lib.hid (fun w' (hp : isPlanB c P = true) (hx : Ext w w') => keeps_yes hr hs hp hx)
  have HOK := Lib.hid (fun tb ib w2 w0 (hx : Ext ((w.alloc (boxC c la fa lk fk)).alloc (boxP pa P.length pk)) w0) (hld : ∀ l, l ∈ P → loadOf c l ≤ c.bears) htb hne hk => keeps2_ok c P la fa lk fk w.heap.size (w.heap.size + 1) tb ib _ w2 w0 hB (hP'.ext (hx0.trans hx)) (hR'.ext (hx0.trans hx)) hst h7 hld (kbox_first c la fa lk fk pa P.length pk w w0 hx).1 (kbox_first c la fa lk fk pa P.length pk w w0 hx).2 htb hne hk)
  have HHV := Lib.hid (fun tb ib w2 w0 (hx : Ext ((w.alloc (boxC c la fa lk fk)).alloc (boxP pa P.length pk)) w0) (hld : ¬ ∀ l, l ∈ P → loadOf c l ≤ c.bears) htb hne hk => keeps2_heavy c P la fa lk fk w.heap.size (w.heap.size + 1) tb ib _ w2 w0 hB (hP'.ext (hx0.trans hx)) (hR'.ext (hx0.trans hx)) hst h7 hld (kbox_first c la fa lk fk pa P.length pk w w0 hx).1 (kbox_first c la fa lk fk pa P.length pk w w0 hx).2 htb hne hk)
  have HST := Lib.hid hst
  have H7 := Lib.hid h7
  have hp7 := h7.1
  have P3 := Lib.hid p3
  rw [hr] at HRO
  rw [hs] at HSO
  obtain ⟨i0, hi, hz0, hz1, hz2⟩ := info_parts info_boolk
  have HSB := Lib.hid (show i0.bytes * c.loads.length ≤ 281474976710656 ∧ c.loads.length ≤ maxLen by rw [hz2]; unfold maxLen; omega)
  have hmf : ∀ (fn : Fn) (first cap : Array Value) (w : World), (Instr.makeFunc fn first cap).run Tryz.prog w = .ok (.func fn first cap) w := fun _ _ _ _ => rfl
  have hmix : Tryz.prog.follows .mixedOrders = true := by kernel_rfl
  clear hR' hP' hll hff hP hx0 hr hs hst h7 p3 hB
  go_enter Tryz.func22, Tryz.ntmps22
  obtain ⟨⟨z0, z1, z2⟩, y0⟩ := HKB.out _ (Ext.refl _)
  go_wp2_with (first
    | (go_at_call 50; refine (HRO.out _ HX0.out).mono ?_; rintro e w1 ⟨rfl, hx1⟩; clear z0 z1 z2 y0; obtain ⟨⟨z0, z1, z2⟩, y0⟩ := HKB.out _ hx1)
    | (go_at_call 70; refine (HSO.out _ hx1).mono ?_; rintro e w2 ⟨rfl, hx2⟩; have hy2 := hx1.trans hx2; clear z0 z1 z2 y0; obtain ⟨⟨z0, z1, z2⟩, y0⟩ := HKB.out _ hy2; have hb2 : ((w.alloc (boxC c la fa lk fk)).alloc (boxP pa P.length pk)).heap.size ≤ w2.heap.size := hy2.size)
    | (refine wpList_make_full _ rfl _ _ _ rfl ((w.alloc (boxC c la fa lk fk)).alloc (boxP pa P.length pk)).heap.size _ i0 _ 1 Tryz.underlying117 hi hz0 hz1 .i64 .i64 _ _ c.loads.length rfl rfl rfl rfl HSB.out.1 HSB.out.2 hb2 ?_; intro w3 hown3 hg3; have hy3 := Ext.grown hy2 hg3 (fun k hk => by cases hk); have HO3 := Lib.hid hown3; clear hown3 hg3; clear z0 z1 z2 y0; obtain ⟨⟨z0, z1, z2⟩, y0⟩ := HKB.out _ hy3))
  have hO3 := HO3.out
  rw [made_met] at hO3
  have HO := Lib.hid hO3
  clear HO3 hO3 HRO HSO
  obtain ⟨mb, hmb⟩ : ∃ mb, w2.heap.size = mb := ⟨_, rfl⟩
  rw [hmb] at HO ⊢
  have hB2 : ((w.alloc (boxC c la fa lk fk)).alloc (boxP pa P.length pk)).heap.size = w.heap.size + 2 := by simp
  rw [hB2] at HO
  clear hmb hb2 hx1 hx2 hy2 hi hz0 hz1 hz2 HSB
  have hmw : w.heap.size + 2 ≤ mb := (World.ownsRow.lt HO.out mb rfl).1
  generalize hW0 : (w.alloc (boxC c la fa lk fk)).alloc (boxP pa P.length pk) = W0 at *
  clear hW0
  go_loopw [8, 28] (fun many q wr => ∃ (k m : Nat) (F : List Int), k ≤ P.length ∧ m ≤ 7 * k ∧ q = .int .i64 k ∧ many = .int .i64 m ∧ wr.ownsRow (w.heap.size + 2) 4 1 (.slice (some ⟨mb, 0, none⟩) c.loads.length c.loads.length) c.loads.length ((metB F c.loads.length).map .bool) ∧ Hid (F = (P.take k).flatten ∧ m = F.length ∧ F.Nodup ∧ ∀ l, l ∈ P.take k → l.length ≠ 0) ∧ Ext W0 wr) (fun _ q _ => P.length - (intOf q).toNat)
  case atStart => exact ⟨0, 0, [], Nat.zero_le _, Nat.le_refl _, rfl, rfl, HO.out, ⟨by simp, rfl, by simp, fun l h => by simp at h⟩, hy3⟩
  case round =>
    clear HO z0 z1 z2 y0
    obtain ⟨k, m, F, hk, hm, rfl, rfl, hown, hF, hx⟩ := hrel
    obtain ⟨⟨z0, z1, z2⟩, y0⟩ := HKB.out _ hx
    by_cases hlt : k < P.length
    · obtain ⟨b, o, lv', l, rfl, hlk, hcl, hil⟩ := P3.out k hlt
      have hl7 := H7.out.2 l (List.mem_of_getElem? hlk.out)
      obtain ⟨ya, yc, rfl, i1, i2, i3⟩ := hil.open
      have I3 := Lib.hid i3
      have d0 := (HX0.out.trans hx).cell hcl
      have x1 : decide ((k : Int) < (P.length : Int)) = true := by simpa using hlt
      have x2 : (k : Int) < (P.length : Int) := by omega
      have x3 : (0 : Int) ≤ (k : Int) := by omega
      have HO := Lib.hid hown
      clear hil hcl i3 hown
      by_cases he : l.length = 0
      · have HE := Lib.hid (plan_no_empty (c := c) (List.mem_of_getElem? hlk.out) he)
        have t1 : ((l.length : Int) == 0) = true := by rw [beq_iff_eq]; omega
        have t2 : (l.length == 0) = true := by rw [beq_iff_eq]; omega
        have HXW := Lib.hid (HX0.out.trans hx)
        clear he
        go_wp2
        go_ret3
        exact HNO.out _ HE.out HXW.out
      · have t1 : ((l.length : Int) == 0) = false := by rw [beq_eq_false_iff_ne]; omega
        have t2 : (l.length == 0) = false := by rw [beq_eq_false_iff_ne]; omega
        have HNE := Lib.hid he
        clear he
        go_wp2
        clear t1 t2 x1
        obtain ⟨wo, rfl⟩ : ∃ wo : World, wo = wr := ⟨_, rfl⟩
        go_loopw [8, 37] (fun many q wr => ∃ (j m : Nat) (G : List Int), j ≤ l.length ∧ m ≤ 7 * k + j ∧ q = .int .i64 j ∧ many = .int .i64 m ∧ wr.ownsRow (w.heap.size + 2) 4 1 (.slice (some ⟨mb, 0, none⟩) c.loads.length c.loads.length) c.loads.length ((metB G c.loads.length).map .bool) ∧ Hid (G = (P.take k).flatten ++ l.take j ∧ m = G.length ∧ G.Nodup) ∧ Ext W0 wr) (fun _ q _ => l.length - (intOf q).toNat)
        case atStart => exact ⟨0, m, F, Nat.zero_le _, by omega, rfl, rfl, HO.out, ⟨by rw [hF.out.1]; simp, hF.out.2.1, hF.out.2.2.1⟩, hx⟩
        case round =>
          clear HO z0 z1 z2 y0 d0
          obtain ⟨j, m', G, hj, hm', rfl, rfl, hown, hG, hxr⟩ := hrel
          have hxw := HX0.out.trans hxr
          by_cases hlj : j < l.length
          · obtain ⟨b', o', y, rfl, hyj, hcy⟩ := I3.out j hlj
            obtain ⟨g1, g2⟩ := HST.out l (List.mem_of_getElem? hlk.out) y (List.mem_of_getElem? hyj.out)
            obtain ⟨a, rfl⟩ : ∃ a : Nat, y = (a : Int) + 1 := ⟨(y - 1).toNat, by omega⟩
            have ha : a < c.loads.length := by omega
            have d1 := hxw.cell hcy
            have q1 : wr.cell? ⟨mb, a, none⟩ = some (.bool (decide ((a : Int) + 1 ∈ G))) := by rw [hown.cellAt a (by omega), met_cell ha]
            have f1 := hown.frozenAt a
            have x1 : decide ((j : Int) < (l.length : Int)) = true := by simpa using hlj
            have x4 : (j : Int) < (l.length : Int) := by omega
            have x5 : (0 : Int) ≤ (j : Int) := by omega
            have x6 : (a : Int) < (c.loads.length : Int) := by omega
            have x7 : (0 : Int) ≤ (a : Int) := by omega
            have E1 : IntKind.i64.wrap ((a : Int) + 1 - 1) = (a : Int) := by rw [IntWalk.i64_in _ (by omega)]; omega
            have E3 : IntKind.i64.wrap (a : Int) = (a : Int) := IntWalk.i64_in _ (by omega)
            have E2 : IntKind.i64.wrap ((m' : Int) + 1) = (m' : Int) + 1 := IntWalk.i64_in _ (by omega)
            have HO := Lib.hid hown
            have HXR := Lib.hid hxr
            clear hcy g1 g2 hown hxw hxr
            cases hq : decide ((a : Int) + 1 ∈ G) with
            | true =>
              have HE := Lib.hid (plan_no_twice (c := c) (twice_not hlk.out hyj.out (by rw [← hG.out.1]; exact of_decide_eq_true hq)))
              rw [hq] at q1
              clear hq
              go_wp2
              go_ret3
              exact HNO.out _ HE.out (HX0.out.trans HXR.out)
            | false =>
              have hG1 := hG.out.1
              have HON := Lib.hid (once_more (k := k) (by rw [← hG1]; exact hG.out.2.2) hyj.out (by rw [← hG1]; exact of_decide_eq_false hq))
              rw [← hG1] at HON
              rw [hq] at q1
              have hown2 := (HO.out.stored a (.bool true)).1
              rw [met_put] at hown2
              have HO2 := Lib.hid hown2
              have HX2 := Lib.hid (HXR.out.setCell (p := ⟨mb, a, none⟩) (by simp only; omega) (.bool true))
              have HML : Hid (m' + 1 = (G ++ [(a : Int) + 1]).length) := by unfold Hid; rw [List.length_append, List.length_singleton, hG.out.2.1]
              clear hq hG1 hown2 HO
              go_wp2
              refine ⟨⟨j + 1, m' + 1, G ++ [(a : Int) + 1], by omega, by omega, by go_num, by go_num, HO2.out, ⟨HON.out.1.symm, HML.out, HON.out.2⟩, HX2.out⟩, by simp [intOf]; omega⟩
          · have hje : j = l.length := by omega
            have hG1 := hG.out.1
            rw [show l.take j = l from List.take_of_length_le (by omega), ← flat_take hlk.out] at hG1
            have HEN : Hid (G = (P.take (k + 1)).flatten ∧ m' = G.length ∧ G.Nodup ∧ ∀ l, l ∈ P.take (k + 1) → l.length ≠ 0) := ⟨hG1, hG.out.2.1, hG.out.2.2, fun z hz => by
              rw [List.take_add_one, hlk.out, List.mem_append] at hz
              rcases hz with hz | hz
              · exact hF.out.2.2.2 z hz
              · rw [show z = l by simpa using hz]; exact HNE.out⟩
            have x1 : decide ((j : Int) < (l.length : Int)) = false := by simpa using hlj
            have HO := Lib.hid hown
            clear hje hG1 hown
            go_wp2
            refine ⟨⟨k + 1, m', G, by omega, by omega, by go_num, rfl, HO.out, HEN.out, hxr⟩, by simp [intOf]; omega⟩
    · have hke : k = P.length := by omega
      have htk : P.take k = P := List.take_of_length_le (by omega)
      have hF1 := hF.out
      rw [htk] at hF1
      have x1 : decide ((k : Int) < (P.length : Int)) = false := by simpa using hlt
      have HXW := Lib.hid (HX0.out.trans hx)
      have HX := Lib.hid hx
      by_cases hmn : m = c.loads.length
      · have t1 : ((m : Int) != (c.loads.length : Int)) = false := by simp [hmn]
        have hlen : P.flatten.length = c.loads.length := by rw [← hF1.1, ← hF1.2.1]; exact hmn
        have hnd : P.flatten.Nodup := by rw [← hF1.1]; exact hF1.2.2.1
        by_cases hld : ∀ l, l ∈ P → loadOf c l ≤ c.bears
        · have HPY := Lib.hid (plan_yes hF1.2.2.2 hld hnd hlen)
          have HLD := Lib.hid hld
          clear hF1 hmn hlen hnd hld hke htk hown hF
          go_wp2_with (go_at_call 75; refine (try_gen 76 _ enters_keeps2 _ (KSt wr wr.heap.size (wr.heap.size + 1) (planLen c P)) (fun w' h => by rw [World.size_alloc]; exact ⟨h.2.2.2.1, h.2.2.2.2⟩) (HOK.out wr.heap.size (wr.heap.size + 1) _ wr HX.out HLD.out (Nat.le_refl _) (by omega) (keeps_start wr))).mono ?_; rintro e w5 ⟨rfl, w6, hk6, hw5⟩; rw [World.size_alloc] at hw5; have e0 : w5.cell? ⟨wr.heap.size, 0, none⟩ = some (.int .i64 (planLen c P)) := (by rw [hw5, World.cell?_setCell_far _ _ _ _ (by simp)]; exact hk6.2.1); have hxf : Ext W0 w5 := (by rw [hw5]; exact (HX.out.trans hk6.1).setCell (by have := HX.out.size; simp only; omega) _); clear hw5 hk6)
          go_quiet (fail)
          go_wp2
          go_ret3
          exact HYES.out _ HPY.out ((HX0.out.trans hxf).drewN _)
        · have HPN : Hid (isPlanB c P = false) := by
            simp only [Classical.not_forall] at hld
            obtain ⟨l, hl, hb⟩ := hld
            exact plan_no_heavy hl (by omega)
          have HLD := Lib.hid hld
          clear hF1 hmn hlen hnd hld hke htk hown hF
          go_wp2_with (go_at_call 75; refine (try_gen_heavy 76 _ enters_keeps2 _ wr ((Ext.refl wr).alloc _) (fun w' => ∃ s, KSt wr wr.heap.size (wr.heap.size + 1) s w') (fun w' h => by obtain ⟨s, h⟩ := h; rw [World.size_alloc]; exact ⟨h.1, h.2.2.2.1, h.2.2.2.2⟩) (HHV.out wr.heap.size (wr.heap.size + 1) _ wr HX.out HLD.out (Nat.le_refl _) (by omega) (keeps_start wr))).mono ?_; rintro e w5 ⟨rfl, hx5⟩)
          go_ret3
          exact HNO.out _ HPN.out (HXW.out.trans hx5)
      · have HE := Lib.hid (plan_no_len (c := c) (P := P) (by rw [← hF1.1, ← hF1.2.1]; exact hmn))
        have t1 : ((m : Int) != (c.loads.length : Int)) = true := by simp; omega
        clear hF1 hmn hke htk hown
        go_wp2
        go_ret3
        exact HNO.out _ HE.out HXW.out
theorem keeps_any (v pv : Value) (c : Roads) (P : List (List Int)) (w : World) (hR : RoadsAt w v c) (hP : RowsAt w pv P) (h7 : P.length ≤ 7 ∧ ∀ l, l ∈ P → l.length ≤ 7) : Calls Tryz.prog 22 #[v, pv] w (KeepsRes c P w) := by
  cases hr : isRoadsB c with
  | false => exact keeps_e0 v pv c P w hR hP hr
  | true =>
    cases hs : someP c P with
    | false => exact keeps_e1 v pv c P w hR hP hr hs
    | true => exact keeps_l v pv c P w hR hP hr hs h7
end Go.Proofs.YtapkbonlijhmjaaGreatDoor
