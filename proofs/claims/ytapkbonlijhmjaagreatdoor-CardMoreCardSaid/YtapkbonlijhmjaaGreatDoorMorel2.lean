/- The law CardMore: a late way. -/
import Derived.Test.YtapkbonlijhmjaaGreatDoorMoree
import Derived.Test.YtapkbonlijhmjaaGreatDoorMorea
import Derived.Test.YtapkbonlijhmjaaGreatDoorHeldr
namespace Go.Proofs.YtapkbonlijhmjaaGreatDoor
open Go.RowKit

set_option maxRecDepth 100000 in
set_option maxHeartbeats 16000000 in
theorem more_l2 (v : Value) (r : Round) (more : Int) (qv : Value) (q : Roads) (w : World) (hr : RoundAt w v r) (hR : RoadsAt w qv q) (ht : TabOk w) (hs : slimB r = true) (hsh : shortB q = true) (hb : isRoundB r = true) (hro : isRoadsB q = true) (hm0 : 0 ≤ more) (hm1 : more ≤ 500)
    (KL ML : List (Int × Int)) (kn mn : Nat) (hkn : KL.length = kn) (hmn : ML.length = mn)
    (hK : ∀ w1 v1, RoundAt w1 v1 r → Calls Tryz.prog 20 #[v1] w1 (KnownAns kn KL 7 w1))
    (hM : ∀ w1 v1, RoundAt w1 v1 (wideR more r) → Calls Tryz.prog 20 #[v1] w1 (KnownAns mn ML 7 w1))
    (hle : ∀ (i : Nat) (x : Int × Int), KL[i]? = some x → ∃ y : Int × Int, ML[i]? = some y ∧ y.1 ≤ x.1 ∧ x.2 ≤ y.2) : Calls Tryz.prog 4 #[v, .int .i64 more, qv] w (TrueP w) := by
  obtain ⟨hv, rfl, hh⟩ := hr
  have hr' : RoundAt w (.agg (r.cells hv).toArray) r := ⟨hv, rfl, hh⟩
  have hR' := hR
  obtain ⟨lv, fv, rfl, hll, hff⟩ := hR
  obtain ⟨a, c, rfl, h1, h2, h3⟩ := hh.open
  obtain ⟨la, lk, rfl, l1, l2, _⟩ := hll.open
  obtain ⟨fa, fk, rfl, f1, f2, _⟩ := hff.open
  have hx0 : Ext w ((w.alloc (boxD r a c)).alloc (boxC q la fa lk fk)) := ((Ext.refl w).alloc _).alloc _
  have HX0 := Lib.hid hx0
  have HSL := Lib.hid (fun w1 (hx : Ext ((w.alloc (boxD r a c)).alloc (boxC q la fa lk fk)) w1) => slim_any _ r w1 (hr'.ext (hx0.trans hx)))
  have HSH := Lib.hid (fun w1 (hx : Ext ((w.alloc (boxD r a c)).alloc (boxC q la fa lk fk)) w1) => short_any _ q w1 (hR'.ext (hx0.trans hx)))
  have HRR := Lib.hid (fun w1 (hx : Ext ((w.alloc (boxD r a c)).alloc (boxC q la fa lk fk)) w1) => rround_any _ r w1 (hr'.ext (hx0.trans hx)))
  have HRO0 := Lib.hid (fun (h0 : q.loads.length ≤ 1000) w1 (hx : Ext ((w.alloc (boxD r a c)).alloc (boxC q la fa lk fk)) w1) => rroads_any _ q w1 (hR'.ext (hx0.trans hx)) h0)
  have HL := Lib.hid (fun w1 (hx : Ext ((w.alloc (boxD r a c)).alloc (boxC q la fa lk fk)) w1) => lknown_any w1 (ht.ext (hx0.trans hx)))
  have HB := Lib.hid (fun W (h : Ext ((w.alloc (boxD r a c)).alloc (boxC q la fa lk fk)) W) => And.intro (round_cells ((h.block (by simp; omega)).trans (two_new w (boxD r a c) (boxC q la fa lk fk)).1)) (show W.cell? ⟨w.heap.size + 1, 0, none⟩ = some (.slice la q.loads.length lk) ∧ W.cell? ⟨w.heap.size + 1, 1, none⟩ = some (.int .i64 q.bears) ∧ W.cell? ⟨w.heap.size + 1, 2, none⟩ = some (.slice fa q.far.length fk) from
    boxC_cells ((h.block (b := w.heap.size + 1) (by simp)).trans (two_new w (boxD r a c) (boxC q la fa lk fk)).2)))
  have hmix : Tryz.prog.follows .mixedOrders = true := by kernel_rfl
  have hL7 : q.loads.length ≤ 7 := by
    unfold shortB at hsh
    simp only [Bool.and_eq_true, decide_eq_true_eq] at hsh
    omega
  have HRO := Lib.hid (HRO0.out (by omega))
  have HKN := Lib.hid (fun w1 (hx : Ext ((w.alloc (boxD r a c)).alloc (boxC q la fa lk fk)) w1) => hK w1 _ (hr'.ext (hx0.trans hx)))
  have HMN := Lib.hid hM
  have HLE := Lib.hid hle
  have HV := Lib.hid (fun w1 (hx : Ext ((w.alloc (boxD r a c)).alloc (boxC q la fa lk fk)) w1) => RowAt.ext (show RowAt w (.slice a r.houses.length c) r.houses.length (r.houses.flatMap House.cells) from hh) (hx0.trans hx))
  have hB := roundB_of hb
  have hn4 := hB.h2
  have s1 := hB.s1
  have s2 := hB.s2
  have o1 := hB.o1
  have o2 := hB.o2
  have HRB := Lib.hid hB
  have u1 : decide (more < 0) = false := by simp; omega
  have u2 : decide (500 < more) = false := by simp; omega
  have hsz : 0 + r.houses.length ≤ maxLen ∧ (0 + r.houses.length) * 48 ≤ 140737488355328 := by unfold maxLen; omega
  have HSZ := Lib.hid hsz
  have E1 : IntKind.i64.wrap (r.slack + more) = r.slack + more := IntWalk.i64_in _ (by omega)
  have E2 : IntKind.i64.wrap (r.off + more) = r.off + more := IntWalk.i64_in _ (by omega)
  have HPP := Lib.hid (more_plans hm0 hro)
  have HRQ := Lib.hid (fun W (h : Ext ((w.alloc (boxD r a c)).alloc (boxC q la fa lk fk)) W) => hR'.ext (hx0.trans h))
  have HRW : Hid (∀ W, Ext ((w.alloc (boxD r a c)).alloc (boxC q la fa lk fk)) W → RoadsAt W (.agg #[.slice la q.loads.length lk, .int .i64 (min 1000 (q.bears + more)), .slice fa q.far.length fk]) (wideC more q)) := fun W h => ⟨_, _, rfl, hll.ext (hx0.trans h), hff.ext (hx0.trans h)⟩
  have qb1 := (roadsB_of hro).b1
  have qb2 := (roadsB_of hro).b2
  have E4 : IntKind.i64.wrap (q.bears + more) = q.bears + more := IntWalk.i64_in _ (by omega)
  rw [hs] at HSL
  rw [hsh] at HSH
  rw [hb] at HRR
  rw [hro] at HRO
  unfold Round.cells at *
  clear hr' hR' hh hll hff hx0 ht h3 hs HRO0 hsh hb hro hB hsz hK hM hle
  go_enter Tryz.func4, Tryz.ntmps4
  go_upto_region 1 with fail
  obtain ⟨⟨z0, z1, z2, z3, z4, z5, z6, z7⟩, y0, y1, y2⟩ := HB.out _ (Ext.refl _)
  go_upto_region 3 with (first
    | (go_at_call 18; refine (HSL.out _ (Ext.refl _)).mono ?_; rintro e w1 ⟨rfl, hx1⟩; have hy1 := Ext.trans (Ext.refl ((w.alloc (boxD r a c)).alloc (boxC q la fa lk fk))) hx1; clear z0 z1 z2 z3 z4 z5 z6 z7 y0 y1 y2; obtain ⟨⟨z0, z1, z2, z3, z4, z5, z6, z7⟩, y0, y1, y2⟩ := HB.out _ hy1)
    | (go_at_call 11; refine (HSH.out _ hy1).mono ?_; rintro e w2 ⟨rfl, hx2⟩; have hy2 := Ext.trans hy1 hx2; clear z0 z1 z2 z3 z4 z5 z6 z7 y0 y1 y2; obtain ⟨⟨z0, z1, z2, z3, z4, z5, z6, z7⟩, y0, y1, y2⟩ := HB.out _ hy2)
    | (go_at_call 19; refine (HRR.out _ hy2).mono ?_; rintro e w3 ⟨rfl, hx3⟩; have hy3 := Ext.trans hy2 hx3; clear z0 z1 z2 z3 z4 z5 z6 z7 y0 y1 y2; obtain ⟨⟨z0, z1, z2, z3, z4, z5, z6, z7⟩, y0, y1, y2⟩ := HB.out _ hy3)
    | (go_at_call 14; refine (HRO.out _ hy3).mono ?_; rintro e w4 ⟨rfl, hx4⟩; have hy4 := Ext.trans hy3 hx4; clear z0 z1 z2 z3 z4 z5 z6 z7 y0 y1 y2; obtain ⟨⟨z0, z1, z2, z3, z4, z5, z6, z7⟩, y0, y1, y2⟩ := HB.out _ hy4))
  have hxr := (Ext.refl w4).alloc (boxD r a c)
  have zz5 := hxr.cell z5
  have hy5 := hy4.trans hxr
  have hs4 := hy4.size
  have HRB8 := Lib.hid (fun W (h : Ext (w4.alloc (boxD r a c)) W) => And.intro (round_cells ((h.block (by simp)).trans (World.alloc_heap_new w4 (boxD r a c)))) (show W.heap[w4.heap.size]? = some (boxD r a c) from (h.block (by simp)).trans (World.alloc_heap_new w4 (boxD r a c))))
  go_upto_region 5 with (at_builtin; refine wpList_append_row E_houses rfl _ _ rfl (w4.alloc (boxD r a c)).heap.size rfl (World.ownsRow_nil _ _ _ _) rfl (HV.out _ hy5) (houses_len _) (houses_one _) ?_ HSZ.out.1 HSZ.out.2 (Nat.le_refl _); intro v8 w8 hown8 hgr8 _; have hx8 : Ext (w4.alloc (boxD r a c)) w8 := (Ext.refl _).grown hgr8 (fun g hg => by cases hg); rw [Nat.zero_add, List.nil_append] at hown8; have hform : ∃ g cap, v8 = .slice (some ⟨g, 0, none⟩) r.houses.length cap := (by obtain ⟨m, hm⟩ : ∃ m, r.houses.length = m + 1 := ⟨r.houses.length - 1, by have := HRB.out.h1; omega⟩; rw [hm] at hown8 ⊢; exact owns_succ hown8); obtain ⟨g, cap, hv8⟩ := hform; subst hv8; obtain ⟨⟨b0, b1, b2, b3, b4, b5, b6, b7⟩, hblk⟩ := HRB8.out _ hx8; have bf : w8.frozen? ⟨w4.heap.size, 5, none⟩ = false := (by unfold World.frozen?; rw [hblk]; rfl); have bf4 : w8.frozen? ⟨w4.heap.size, 4, none⟩ = false := (by unfold World.frozen?; rw [hblk]; rfl); have bf7 : w8.frozen? ⟨w4.heap.size, 7, none⟩ = false := (by unfold World.frozen?; rw [hblk]; rfl); have HOWN8 := Lib.hid hown8; have HX8 := Lib.hid hx8; clear hown8 hgr8 hblk)
  have hg8 := (World.ownsRow.lt HOWN8.out g rfl).1
  rw [World.size_alloc] at hg8
  have HYB : Hid (Ext ((w.alloc (boxD r a c)).alloc (boxC q la fa lk fk)) (w8.setCell ⟨w4.heap.size, 5, none⟩ (.slice (some ⟨g, 0, none⟩) r.houses.length cap))) := (hy5.trans HX8.out).setCell hs4 _
  have HOB := Lib.hid (ownsRow_setCell_other HOWN8.out (a := ⟨w4.heap.size, 5, none⟩) (by simp [Value.ownBlock]; omega) (.slice (some ⟨g, 0, none⟩) r.houses.length cap))
  have HCB : Hid ((w8.setCell ⟨w4.heap.size, 5, none⟩ (.slice (some ⟨g, 0, none⟩) r.houses.length cap)).cell? ⟨w4.heap.size, 0, none⟩ = some (.int .i64 r.per) ∧ (w8.setCell ⟨w4.heap.size, 5, none⟩ (.slice (some ⟨g, 0, none⟩) r.houses.length cap)).cell? ⟨w4.heap.size, 1, none⟩ = some (.int .i64 r.lo) ∧ (w8.setCell ⟨w4.heap.size, 5, none⟩ (.slice (some ⟨g, 0, none⟩) r.houses.length cap)).cell? ⟨w4.heap.size, 2, none⟩ = some (.int .i64 r.hi) ∧ (w8.setCell ⟨w4.heap.size, 5, none⟩ (.slice (some ⟨g, 0, none⟩) r.houses.length cap)).cell? ⟨w4.heap.size, 3, none⟩ = some (.int .i64 r.card) ∧ (w8.setCell ⟨w4.heap.size, 5, none⟩ (.slice (some ⟨g, 0, none⟩) r.houses.length cap)).cell? ⟨w4.heap.size, 4, none⟩ = some (.int .i64 r.slack) ∧ (w8.setCell ⟨w4.heap.size, 5, none⟩ (.slice (some ⟨g, 0, none⟩) r.houses.length cap)).cell? ⟨w4.heap.size, 5, none⟩ = some (.slice (some ⟨g, 0, none⟩) r.houses.length cap) ∧ (w8.setCell ⟨w4.heap.size, 5, none⟩ (.slice (some ⟨g, 0, none⟩) r.houses.length cap)).cell? ⟨w4.heap.size, 6, none⟩ = some (.int .i64 r.all) ∧ (w8.setCell ⟨w4.heap.size, 5, none⟩ (.slice (some ⟨g, 0, none⟩) r.houses.length cap)).cell? ⟨w4.heap.size, 7, none⟩ = some (.int .i64 r.off)) := ⟨(World.cell?_setCell_other _ _ _ _ (by simp)).trans b0, (World.cell?_setCell_other _ _ _ _ (by simp)).trans b1, (World.cell?_setCell_other _ _ _ _ (by simp)).trans b2, (World.cell?_setCell_other _ _ _ _ (by simp)).trans b3, (World.cell?_setCell_other _ _ _ _ (by simp)).trans b4, World.cell?_setCell_same _ _ _ b5, (World.cell?_setCell_other _ _ _ _ (by simp)).trans b6, (World.cell?_setCell_other _ _ _ _ (by simp)).trans b7⟩
  have cf4 : (w8.setCell ⟨w4.heap.size, 5, none⟩ (.slice (some ⟨g, 0, none⟩) r.houses.length cap)).frozen? ⟨w4.heap.size, 4, none⟩ = false := (World.frozen?_setCell _ _ _ _).trans bf4
  have cf7 : (w8.setCell ⟨w4.heap.size, 5, none⟩ (.slice (some ⟨g, 0, none⟩) r.houses.length cap)).frozen? ⟨w4.heap.size, 7, none⟩ = false := (World.frozen?_setCell _ _ _ _).trans bf7
  clear b0 b1 b2 b3 b4 b5 b6 b7 bf bf4 bf7 z0 z1 z2 z3 z4 z5 z6 z7 y0 y1 y2 zz5 HOWN8 HX8
  generalize hwB : (w8.setCell ⟨w4.heap.size, 5, none⟩ (.slice (some ⟨g, 0, none⟩) r.houses.length cap)) = wB at *
  obtain ⟨⟨z0, z1, z2, z3, z4, z5, z6, z7⟩, y0, y1, y2⟩ := HB.out wB HYB.out
  obtain ⟨c0, c1, c2, c3, c4, c5, c6, c7⟩ := HCB.out
  have HS5 : Hid (∀ W1 : World, (∀ p o, p ≠ w4.heap.size → W1.cell? ⟨p, o, none⟩ = wB.cell? ⟨p, o, none⟩) → W1.cell? ⟨w.heap.size, 4, none⟩ = some (.int .i64 r.slack) ∧ W1.cell? ⟨w.heap.size, 7, none⟩ = some (.int .i64 r.off)) := fun W1 h1 => ⟨(h1 _ _ (by have := hs4; simp at this; omega)).trans z4, (h1 _ _ (by have := hs4; simp at this; omega)).trans z7⟩
  clear hwB
  refine wp_region_held_drew (S := (fun w' => w'.cell? ⟨w.heap.size, 4, none⟩ = some (.int .i64 r.slack) ∧ w'.cell? ⟨w.heap.size, 7, none⟩ = some (.int .i64 r.off))) (by kernel_rfl) ?_ (fun hHeld => ?_)
  · exact HS5.out _ (fun b o hb => rfl)
  refine held_take (i := 0) (d := some 53) (v := ?_) (by kernel_rfl) (by kernel_rfl) (by kernel_rfl) (by kernel_rfl) (fun _ _ _ h => h) (fun o ho => ?_) hHeld ?_
  rotate_left
  · simp only [List.getElem?_toArray, List.getElem?_cons_zero, Option.some.injEq] at ho
    subst ho
    refine ⟨by rfl, fun w hSw => ?_⟩
    (try dsimp only at hSw)
    go_simp
    try with_reducible rfl
  try simp only [Act.put, List.setIfInBounds_toArray, List.set_cons_zero, List.set_cons_succ]
  refine held_take (i := 1) (d := some 54) (v := ?_) (by kernel_rfl) (by kernel_rfl) (by kernel_rfl) (by kernel_rfl) (fun _ _ _ h => h) (fun o ho => ?_) hHeld ?_
  rotate_left
  · simp only [List.getElem?_toArray, List.getElem?_cons_zero, List.getElem?_cons_succ, Option.some.injEq] at ho
    subst ho
    refine ⟨by rfl, fun w hSw => ?_⟩
    (try dsimp only at hSw)
    go_simp
    try with_reducible rfl
  try simp only [Act.put, List.setIfInBounds_toArray, List.set_cons_zero, List.set_cons_succ]
  refine held_take (i := 2) (d := some 55) (v := ?_) (by kernel_rfl) (by kernel_rfl) (by kernel_rfl) (by kernel_rfl) (fun _ _ _ h => h) (fun o ho => ?_) hHeld ?_
  rotate_left
  · simp only [List.getElem?_toArray, List.getElem?_cons_zero, List.getElem?_cons_succ, Option.some.injEq] at ho
    subst ho
    refine ⟨by rfl, fun w hSw => ?_⟩
    (try dsimp only at hSw)
    go_simp
    try with_reducible rfl
  try simp only [Act.put, List.setIfInBounds_toArray, List.set_cons_zero, List.set_cons_succ]
  refine held_take (i := 3) (d := some 56) (v := ?_) (by kernel_rfl) (by kernel_rfl) (by kernel_rfl) (by kernel_rfl) (fun _ _ _ h => h) (fun o ho => ?_) hHeld ?_
  rotate_left
  · simp only [List.getElem?_toArray, List.getElem?_cons_zero, List.getElem?_cons_succ, Option.some.injEq] at ho
    subst ho
    refine ⟨by rfl, fun w hSw => ?_⟩
    (try dsimp only at hSw)
    go_simp
    try with_reducible rfl
  try simp only [Act.put, List.setIfInBounds_toArray, List.set_cons_zero, List.set_cons_succ]
  refine held_take (i := 4) (d := some 57) (v := ?_) (by kernel_rfl) (by kernel_rfl) (by kernel_rfl) (by kernel_rfl) (fun _ _ _ h => h) (fun o ho => ?_) hHeld ?_
  rotate_left
  · simp only [List.getElem?_toArray, List.getElem?_cons_zero, List.getElem?_cons_succ, Option.some.injEq] at ho
    subst ho
    refine ⟨by rfl, fun w hSw => ?_⟩
    (try dsimp only at hSw)
    go_simp
    try with_reducible rfl
  try simp only [Act.put, List.setIfInBounds_toArray, List.set_cons_zero, List.set_cons_succ]
  refine held_take (i := 5) (d := some 58) (v := ?_) (by kernel_rfl) (by kernel_rfl) (by kernel_rfl) (by kernel_rfl) (fun _ _ _ h => h) (fun o ho => ?_) hHeld ?_
  rotate_left
  · simp only [List.getElem?_toArray, List.getElem?_cons_zero, List.getElem?_cons_succ, Option.some.injEq] at ho
    subst ho
    refine ⟨by rfl, fun w hSw => ?_⟩
    (try dsimp only at hSw)
    go_simp
    try with_reducible rfl
  try simp only [Act.put, List.setIfInBounds_toArray, List.set_cons_zero, List.set_cons_succ]
  refine held_take (i := 6) (d := some 59) (v := ?_) (by kernel_rfl) (by kernel_rfl) (by kernel_rfl) (by kernel_rfl) (fun _ _ _ h => h) (fun o ho => ?_) hHeld ?_
  rotate_left
  · simp only [List.getElem?_toArray, List.getElem?_cons_zero, List.getElem?_cons_succ, Option.some.injEq] at ho
    subst ho
    refine ⟨by rfl, fun w hSw => ?_⟩
    (try dsimp only at hSw)
    go_simp
    try with_reducible rfl
  try simp only [Act.put, List.setIfInBounds_toArray, List.set_cons_zero, List.set_cons_succ]
  refine held_take (i := 7) (d := some 60) (v := ?_) (by kernel_rfl) (by kernel_rfl) (by kernel_rfl) (by kernel_rfl) (fun _ _ _ h => h) (fun o ho => ?_) hHeld ?_
  rotate_left
  · simp only [List.getElem?_toArray, List.getElem?_cons_zero, List.getElem?_cons_succ, Option.some.injEq] at ho
    subst ho
    refine ⟨by rfl, fun w hSw => ?_⟩
    (try dsimp only at hSw)
    go_simp
    try with_reducible rfl
  try simp only [Act.put, List.setIfInBounds_toArray, List.set_cons_zero, List.set_cons_succ]
  refine held_take (i := 8) (d := some 61) (v := ?_) (by kernel_rfl) (by kernel_rfl) (by kernel_rfl) (by kernel_rfl) (fun _ _ _ h => h) (fun o ho => ?_) hHeld ?_
  rotate_left
  · simp only [List.getElem?_toArray, List.getElem?_cons_zero, List.getElem?_cons_succ, Option.some.injEq] at ho
    subst ho
    refine ⟨by rfl, fun w hSw => ?_⟩
    (try dsimp only at hSw)
    go_simp
    try with_reducible rfl
  try simp only [Act.put, List.setIfInBounds_toArray, List.set_cons_zero, List.set_cons_succ]
  refine held_take (i := 9) (d := some 62) (v := ?_) (by kernel_rfl) (by kernel_rfl) (by kernel_rfl) (by kernel_rfl) (fun _ _ _ h => h) (fun o ho => ?_) hHeld ?_
  rotate_left
  · simp only [List.getElem?_toArray, List.getElem?_cons_zero, List.getElem?_cons_succ, Option.some.injEq] at ho
    subst ho
    refine ⟨by rfl, fun w hSw => ?_⟩
    (try dsimp only at hSw)
    go_simp
    try with_reducible rfl
  try simp only [Act.put, List.setIfInBounds_toArray, List.set_cons_zero, List.set_cons_succ]
  refine held_take (i := 10) (d := some 63) (v := ?_) (by kernel_rfl) (by kernel_rfl) (by kernel_rfl) (by kernel_rfl) (fun _ _ _ h => h) (fun o ho => ?_) hHeld ?_
  rotate_left
  · simp only [List.getElem?_toArray, List.getElem?_cons_zero, List.getElem?_cons_succ, Option.some.injEq] at ho
    subst ho
    refine ⟨by rfl, fun w hSw => ?_⟩
    (try dsimp only at hSw)
    go_simp
    try with_reducible rfl
  try simp only [Act.put, List.setIfInBounds_toArray, List.set_cons_zero, List.set_cons_succ]
  refine wpAnyH_ready (rs := [11]) (by kernel_rfl) (by simp) ?_
  refine held_step (i := 11) (by kernel_rfl) (fun o ho K' hK => ?_) ?_
  · simp only [List.getElem?_toArray, List.getElem?_cons_zero, List.getElem?_cons_succ, Option.some.injEq] at ho
    subst ho
    go_simp
    refine hK.out _ _ ?_ (fun hHeld => ?_)
    · (first | exact HS5.out _ (fun b o hb => rfl) | exact HS5.out _ (fun b o hb => cell_set_ne (W := wB) hb) | exact HS5.out _ (fun b o hb => (cell_set_ne (W := wB.setCell ⟨w4.heap.size, 4, none⟩ (.int .i64 (min 500 (r.slack + more)))) hb).trans (cell_set_ne hb)))
    clear hK K'
    try simp only [List.setIfInBounds_toArray, List.set_cons_zero, List.set_cons_succ]
    refine held_take (i := 12) (d := some 64) (v := ?_) (by kernel_rfl) (by kernel_rfl) (by kernel_rfl) (by kernel_rfl) (fun _ _ _ h => h) (fun o ho => ?_) hHeld ?_
    rotate_left
    · simp only [List.getElem?_toArray, List.getElem?_cons_zero, List.getElem?_cons_succ, Option.some.injEq] at ho
      subst ho
      refine ⟨by rfl, fun w hSw => ?_⟩
      (try dsimp only at hSw)
      go_simp
      try with_reducible rfl
    try simp only [Act.put, List.setIfInBounds_toArray, List.set_cons_zero, List.set_cons_succ]
    refine wpAnyH_ready (rs := [13]) (by kernel_rfl) (by simp) ?_
    refine held_step (i := 13) (by kernel_rfl) (fun o ho K' hK => ?_) ?_
    · simp only [List.getElem?_toArray, List.getElem?_cons_zero, List.getElem?_cons_succ, Option.some.injEq] at ho
      subst ho
      go_simp
      refine hK.out _ _ ?_ (fun hHeld => ?_)
      · (first | exact HS5.out _ (fun b o hb => rfl) | exact HS5.out _ (fun b o hb => cell_set_ne (W := wB) hb) | exact HS5.out _ (fun b o hb => (cell_set_ne (W := wB.setCell ⟨w4.heap.size, 4, none⟩ (.int .i64 (min 500 (r.slack + more)))) hb).trans (cell_set_ne hb)))
      clear hK K'
      try simp only [List.setIfInBounds_toArray, List.set_cons_zero, List.set_cons_succ]
      refine wpAnyH_done (by kernel_rfl) ?_ _
      try simp only [List.setIfInBounds_toArray, List.set_cons_zero, List.set_cons_succ]
      have HYC : Hid (Ext ((w.alloc (boxD r a c)).alloc (boxC q la fa lk fk)) (((wB.setCell ⟨w4.heap.size, 4, none⟩ (.int .i64 (min 500 (r.slack + more)))).setCell ⟨w4.heap.size, 7, none⟩ (.int .i64 (min 100 (r.off + more)))).drew)) := ((HYB.out.setCell hs4 _).setCell hs4 _).drew
      have HOC := Lib.hid ((ownsRow_setCell_other (ownsRow_setCell_other HOB.out (a := ⟨w4.heap.size, 4, none⟩) (by simp [Value.ownBlock]; omega) (.int .i64 (min 500 (r.slack + more)))) (a := ⟨w4.heap.size, 7, none⟩) (by simp [Value.ownBlock]; omega) (.int .i64 (min 100 (r.off + more)))).drew)
      have h7 : (wB.setCell ⟨w4.heap.size, 4, none⟩ (.int .i64 (min 500 (r.slack + more)))).cell? ⟨w4.heap.size, 7, none⟩ = some (.int .i64 r.off) := (World.cell?_setCell_other _ _ _ _ (by simp)).trans c7
      have HCC : Hid ((((wB.setCell ⟨w4.heap.size, 4, none⟩ (.int .i64 (min 500 (r.slack + more)))).setCell ⟨w4.heap.size, 7, none⟩ (.int .i64 (min 100 (r.off + more)))).drew).cell? ⟨w4.heap.size, 0, none⟩ = some (.int .i64 r.per) ∧ (((wB.setCell ⟨w4.heap.size, 4, none⟩ (.int .i64 (min 500 (r.slack + more)))).setCell ⟨w4.heap.size, 7, none⟩ (.int .i64 (min 100 (r.off + more)))).drew).cell? ⟨w4.heap.size, 1, none⟩ = some (.int .i64 r.lo) ∧ (((wB.setCell ⟨w4.heap.size, 4, none⟩ (.int .i64 (min 500 (r.slack + more)))).setCell ⟨w4.heap.size, 7, none⟩ (.int .i64 (min 100 (r.off + more)))).drew).cell? ⟨w4.heap.size, 2, none⟩ = some (.int .i64 r.hi) ∧ (((wB.setCell ⟨w4.heap.size, 4, none⟩ (.int .i64 (min 500 (r.slack + more)))).setCell ⟨w4.heap.size, 7, none⟩ (.int .i64 (min 100 (r.off + more)))).drew).cell? ⟨w4.heap.size, 3, none⟩ = some (.int .i64 r.card) ∧ (((wB.setCell ⟨w4.heap.size, 4, none⟩ (.int .i64 (min 500 (r.slack + more)))).setCell ⟨w4.heap.size, 7, none⟩ (.int .i64 (min 100 (r.off + more)))).drew).cell? ⟨w4.heap.size, 4, none⟩ = some (.int .i64 (min 500 (r.slack + more))) ∧ (((wB.setCell ⟨w4.heap.size, 4, none⟩ (.int .i64 (min 500 (r.slack + more)))).setCell ⟨w4.heap.size, 7, none⟩ (.int .i64 (min 100 (r.off + more)))).drew).cell? ⟨w4.heap.size, 5, none⟩ = some (.slice (some ⟨g, 0, none⟩) r.houses.length cap) ∧ (((wB.setCell ⟨w4.heap.size, 4, none⟩ (.int .i64 (min 500 (r.slack + more)))).setCell ⟨w4.heap.size, 7, none⟩ (.int .i64 (min 100 (r.off + more)))).drew).cell? ⟨w4.heap.size, 6, none⟩ = some (.int .i64 r.all) ∧ (((wB.setCell ⟨w4.heap.size, 4, none⟩ (.int .i64 (min 500 (r.slack + more)))).setCell ⟨w4.heap.size, 7, none⟩ (.int .i64 (min 100 (r.off + more)))).drew).cell? ⟨w4.heap.size, 7, none⟩ = some (.int .i64 (min 100 (r.off + more)))) := ⟨(World.cell?_setCell_other _ _ _ _ (by simp)).trans ((World.cell?_setCell_other _ _ _ _ (by simp)).trans c0), (World.cell?_setCell_other _ _ _ _ (by simp)).trans ((World.cell?_setCell_other _ _ _ _ (by simp)).trans c1), (World.cell?_setCell_other _ _ _ _ (by simp)).trans ((World.cell?_setCell_other _ _ _ _ (by simp)).trans c2), (World.cell?_setCell_other _ _ _ _ (by simp)).trans ((World.cell?_setCell_other _ _ _ _ (by simp)).trans c3), (World.cell?_setCell_other _ _ _ _ (by simp)).trans (World.cell?_setCell_same _ _ _ c4), (World.cell?_setCell_other _ _ _ _ (by simp)).trans ((World.cell?_setCell_other _ _ _ _ (by simp)).trans c5), (World.cell?_setCell_other _ _ _ _ (by simp)).trans ((World.cell?_setCell_other _ _ _ _ (by simp)).trans c6), World.cell?_setCell_same _ _ _ h7⟩
      clear c0 c1 c2 c3 c4 c5 c6 c7 h7 z0 z1 z2 z3 z4 z5 z6 z7 y0 y1 y2 cf4 cf7 HS5 HCB HYB HOB hHeld
      generalize (((wB.setCell ⟨w4.heap.size, 4, none⟩ (.int .i64 (min 500 (r.slack + more)))).setCell ⟨w4.heap.size, 7, none⟩ (.int .i64 (min 100 (r.off + more)))).drew) = wC at *
      obtain ⟨c0, c1, c2, c3, c4, c5, c6, c7⟩ := HCC.out
      go_wp2
      go_loopw [8] (fun i wr => ∃ k : Nat, k ≤ r.houses.length ∧ i = .int .i64 k ∧ Hid (wr.ownsRow (w4.alloc (boxD r a c)).heap.size 42 6 (.slice (some ⟨g, 0, none⟩) r.houses.length cap) r.houses.length ((wideUp more r.houses k).flatMap House.cells)) ∧ Hid (wr.cell? ⟨w4.heap.size, 0, none⟩ = some (.int .i64 r.per) ∧ wr.cell? ⟨w4.heap.size, 1, none⟩ = some (.int .i64 r.lo) ∧ wr.cell? ⟨w4.heap.size, 2, none⟩ = some (.int .i64 r.hi) ∧ wr.cell? ⟨w4.heap.size, 3, none⟩ = some (.int .i64 r.card) ∧ wr.cell? ⟨w4.heap.size, 4, none⟩ = some (.int .i64 (min 500 (r.slack + more))) ∧ wr.cell? ⟨w4.heap.size, 5, none⟩ = some (.slice (some ⟨g, 0, none⟩) r.houses.length cap) ∧ wr.cell? ⟨w4.heap.size, 6, none⟩ = some (.int .i64 r.all) ∧ wr.cell? ⟨w4.heap.size, 7, none⟩ = some (.int .i64 (min 100 (r.off + more)))) ∧ Ext ((w.alloc (boxD r a c)).alloc (boxC q la fa lk fk)) wr) (fun i _ => r.houses.length - (intOf i).toNat)
      case atStart => exact ⟨0, Nat.zero_le _, rfl, by rw [wideUp_zero]; exact HOC, HCC, HYC.out⟩
      case round =>
        clear c0 c1 c2 c3 c4 c5 c6 c7 HOC HCC HYC
        obtain ⟨k, hk, rfl, HO, HC, hx⟩ := hrel
        obtain ⟨c0, c1, c2, c3, c4, c5, c6, c7⟩ := HC.out
        by_cases hlt : k < r.houses.length
        · have x1 : decide ((k : Int) < (r.houses.length : Int)) = true := by simpa using hlt
          have hhk : r.houses[k]? = some r.houses[k] := List.getElem?_eq_getElem hlt
          have hms := (badHouse_iff.1 (HRB.out.hs _ (List.getElem_mem hlt))).2.2.2.2.1
          have HHK := Lib.hid hhk
          obtain ⟨h, hhe⟩ : ∃ h, r.houses[k] = h := ⟨_, rfl⟩
          rw [hhe] at HHK hms
          have E3 : IntKind.i64.wrap (h.miss + more) = h.miss + more := IntWalk.i64_in _ (by omega)
          have qm : wr.cell? ⟨g, k * 6 + 4, none⟩ = some (.int .i64 h.miss) := (HO.out.cellAt (k * 6 + 4) (by omega)).trans (cell_miss _ k h (wideUp_at HHK.out))
          have qf := HO.out.frozenAt (k * 6 + 4)
          have x2 : (k : Int) < (r.houses.length : Int) := by omega
          have x3 : (0 : Int) ≤ (k : Int) := by omega
          clear hhk hhe hms
          go_upto_region 9 with fail
          go_still_tail 14, (by kernel_rfl)
          change wpList _ _ _ _ _ wr.drew
          go_wp2
          have HNEW := Lib.hid (wideUp_succ (m := more) HHK.out)
          refine ⟨⟨k + 1, by omega, by go_num, ?_, ?_, ?_⟩, by simp [intOf]; omega⟩
          · have g1 := (HO.out.stored (k * 6 + 4) (.int .i64 (min 3 (h.miss + more)))).1.drew
            rw [set_miss _ k h _ (wideUp_at HHK.out), show ({ h with miss := min 3 (h.miss + more) } : House) = wideH more h from rfl, HNEW.out] at g1
            exact g1
          · exact ⟨(cell_set_ne (W := wr) (by omega)).trans c0, (cell_set_ne (W := wr) (by omega)).trans c1, (cell_set_ne (W := wr) (by omega)).trans c2, (cell_set_ne (W := wr) (by omega)).trans c3, (cell_set_ne (W := wr) (by omega)).trans c4, (cell_set_ne (W := wr) (by omega)).trans c5, (cell_set_ne (W := wr) (by omega)).trans c6, (cell_set_ne (W := wr) (by omega)).trans c7⟩
          · exact (hx.setCell (p := ⟨g, k * 6 + 4, none⟩) (by show _ ≤ g; omega) _).drew
        · have x1 : decide ((k : Int) < (r.houses.length : Int)) = false := by simp; omega
          have hrat : RoundAt wr (.agg #[.int .i64 r.per, .int .i64 r.lo, .int .i64 r.hi, .int .i64 r.card, (.int .i64 (min 500 (r.slack + more))), (.slice (some ⟨g, 0, none⟩) r.houses.length cap), .int .i64 r.all, (.int .i64 (min 100 (r.off + more)))]) (wideR more r) := by
            have g1 := HO.out
            rw [show k = r.houses.length by omega, wideUp_all] at g1
            refine ⟨(.slice (some ⟨g, 0, none⟩) r.houses.length cap), rfl, ?_⟩
            have := RowAt.of_owns g1
            unfold HousesAt
            rw [wide_len]
            exact this
          have HRAT := Lib.hid hrat
          clear hrat HO HC
          obtain ⟨⟨z0, z1, z2, z3, z4, z5, z6, z7⟩, y0, y1, y2⟩ := HB.out _ hx
          go_upto_region 12 with (first
            | (go_at_call 20; refine (HKN.out _ hx).mono ?_; rintro e w9 ⟨ka, kc, rfl, hx9, hk9⟩; have HK9 := Lib.hid hk9; have hy9 := hx.trans hx9; clear hk9 HKN z0 z1 z2 z3 z4 z5 z6 z7 y0 y1 y2; obtain ⟨⟨z0, z1, z2, z3, z4, z5, z6, z7⟩, y0, y1, y2⟩ := HB.out _ hy9; replace c0 := hx9.cell c0; replace c1 := hx9.cell c1; replace c2 := hx9.cell c2; replace c3 := hx9.cell c3; replace c4 := hx9.cell c4; replace c5 := hx9.cell c5; replace c6 := hx9.cell c6; replace c7 := hx9.cell c7; have HRAT9 := Lib.hid (HRAT.out.ext hx9))
            | (go_at_call 20; refine (HMN.out _ _ HRAT9.out).mono ?_; rintro e w10 ⟨ma, mc, rfl, hx10, hm10⟩; have HM10 := Lib.hid hm10; have HK10 := Lib.hid (HK9.out.ext hx10); have hy10 := hy9.trans hx10; clear hm10 HMN z0 z1 z2 z3 z4 z5 z6 z7 y0 y1 y2; obtain ⟨⟨z0, z1, z2, z3, z4, z5, z6, z7⟩, y0, y1, y2⟩ := HB.out _ hy10))
          obtain ⟨wo, rfl⟩ : ∃ wo : World, wo = wr := ⟨_, rfl⟩
          go_upto_region 15 with fail
          go_loopw [13] (fun i wr => ∃ j : Nat, j ≤ kn ∧ i = .int .i64 j ∧ Ext w10 wr) (fun i _ => kn - (intOf i).toNat)
          case atStart => exact ⟨0, Nat.zero_le _, rfl, Ext.refl _⟩
          case round =>
            obtain ⟨j, hj, rfl, hxs⟩ := hrel
            by_cases hjt : j < kn
            · obtain ⟨a1, k1, e1, _, _, q3⟩ := (HK10.out.ext hxs).open
              injection e1 with e1 e2 e3
              subst e1 e3
              obtain ⟨b, o, x, rfl, hxk, d1, d2⟩ := q3 j (by omega)
              obtain ⟨y, hyk, le1, le2⟩ := HLE.out j x hxk.out
              obtain ⟨a2, k2, e1, _, _, q4⟩ := (HM10.out.ext hxs).open
              injection e1 with e1 e4 e5
              subst e1 e5
              have hjm : j < ML.length := (List.getElem?_eq_some_iff.1 hyk).1
              obtain ⟨b', o', y', rfl, hyk', d3, d4⟩ := q4 j hjm
              obtain rfl : y' = y := by have := hyk'.out; rw [hyk] at this; cases this; rfl
              have x5 : decide ((j : Int) < (kn : Int)) = true := by simpa using hjt
              have x6 : (j : Int) < (kn : Int) := by omega
              have x7 : (j : Int) < (mn : Int) := by omega
              have x8 : (0 : Int) ≤ (j : Int) := by omega
              have t1 : decide (x.1 < y'.1) = false := by simp; omega
              have t2 : decide (y'.2 < x.2) = false := by simp; omega
              clear q3 q4 e2 e4 hxk hyk hyk' le1 le2 hjm
              go_upto_region 17 with fail
              go_quiet (fail)
              go_wp2
              refine ⟨⟨j + 1, by omega, by go_num, hxs.drewN _⟩, by simp [intOf]; omega⟩
            · have x5 : decide ((j : Int) < (kn : Int)) = false := by simp; omega
              have hy11 := hy10.trans hxs
              obtain ⟨⟨z0, z1, z2, z3, z4, z5, z6, z7⟩, y0, y1, y2⟩ := HB.out _ hy11
              have hxq := (Ext.refl wr).alloc (boxC q la fa lk fk)
              have zy1 := hxq.cell y1
              go_upto_region 21 with fail
              have HDC : Hid (∀ W, Ext (wr.alloc (.cells #[.slice la q.loads.length lk, .int .i64 (min 1000 (q.bears + more)), .slice fa q.far.length fk] 25)) W → W.cell? ⟨wr.heap.size, 0, none⟩ = some (.slice la q.loads.length lk) ∧ W.cell? ⟨wr.heap.size, 1, none⟩ = some (.int .i64 (min 1000 (q.bears + more))) ∧ W.cell? ⟨wr.heap.size, 2, none⟩ = some (.slice fa q.far.length fk)) := fun W h => boxC_cells (c := wideC more q) ((h.block (by simp)).trans (World.alloc_heap_new wr (boxC (wideC more q) la fa lk fk)))
              have hyD : Ext ((w.alloc (boxD r a c)).alloc (boxC q la fa lk fk)) (wr.alloc (.cells #[.slice la q.loads.length lk, .int .i64 (min 1000 (q.bears + more)), .slice fa q.far.length fk] 25)) := hy11.trans ((Ext.refl wr).alloc _)
              clear z0 z1 z2 z3 z4 z5 z6 z7 y0 y1 y2 zy1 hxq c0 c1 c2 c3 c4 c5 c6 c7
              obtain ⟨⟨z0, z1, z2, z3, z4, z5, z6, z7⟩, y0, y1, y2⟩ := HB.out _ hyD
              rcases HPP.out with ⟨P1, P2⟩ | ⟨n, P1, P2⟩ | ⟨n, m, hnm, P1, P2⟩
              · have P1 := Lib.hid P1
                have P2 := Lib.hid P2
                go_wp2_with (first
                  | (go_at_call 13; refine (P1.out _ _ (HRQ.out _ hyD)).mono ?_; rintro e w12 ⟨pa, pc, d, rfl, hx12⟩; have hy12 := hyD.trans hx12; clear P1; obtain ⟨d0, d1, d2⟩ := HDC.out _ hx12)
                  | (go_at_call 13; refine (P2.out _ _ (HRW.out _ hy12)).mono ?_; rintro e w13 ⟨pa2, pc2, d2', rfl, hx13⟩; have hy13 := hy12.trans hx13; clear P2)
                  | (go_at_call 12; refine (HL.out _ hy13).mono ?_; rintro e wk ⟨rfl, hxk⟩))
                go_ret
                exact ⟨rfl, (HX0.out.trans hy13).trans hxk⟩
              · have P1 := Lib.hid P1
                have P2 := Lib.hid P2
                go_wp2_with (first
                  | (go_at_call 13; refine (P1.out _ _ (HRQ.out _ hyD)).mono ?_; rintro e w12 ⟨pa, pc, d, rfl, hx12⟩; have hy12 := hyD.trans hx12; clear P1; obtain ⟨d0, d1, d2⟩ := HDC.out _ hx12)
                  | (go_at_call 13; refine (P2.out _ _ (HRW.out _ hy12)).mono ?_; rintro e w13 ⟨pa2, pc2, d2', rfl, hx13⟩; have hy13 := hy12.trans hx13; clear P2)
                  | (go_at_call 12; refine (HL.out _ hy13).mono ?_; rintro e wk ⟨rfl, hxk⟩))
                go_ret
                exact ⟨rfl, (HX0.out.trans hy13).trans hxk⟩
              · have P1 := Lib.hid P1
                have P2 := Lib.hid P2
                have x9 : decide ((m : Int) ≤ (n : Int)) = true := by simpa using hnm
                go_wp2_with (first
                  | (go_at_call 13; refine (P1.out _ _ (HRQ.out _ hyD)).mono ?_; rintro e w12 ⟨pa, pc, d, rfl, hx12⟩; have hy12 := hyD.trans hx12; clear P1; obtain ⟨d0, d1, d2⟩ := HDC.out _ hx12)
                  | (go_at_call 13; refine (P2.out _ _ (HRW.out _ hy12)).mono ?_; rintro e w13 ⟨pa2, pc2, d2', rfl, hx13⟩; have hy13 := hy12.trans hx13; clear P2)
                  | (go_at_call 12; refine (HL.out _ hy13).mono ?_; rintro e wk ⟨rfl, hxk⟩))
                go_ret
                exact ⟨rfl, (HX0.out.trans hy13).trans hxk⟩
    exact AllReadyH.nil
  exact AllReadyH.nil
end Go.Proofs.YtapkbonlijhmjaaGreatDoor
