/- The reference's Fits; the walk of CardRuns. -/
import Derived.Test.YtpheidlocijdkaaGreatDoorRunsb
import Derived.Test.YtpheidlocijdkaaGreatDoorHeldr
namespace Go.Proofs.YtpheidlocijdkaaGreatDoor
open Go.RowKit

set_option maxRecDepth 100000 in
set_option maxHeartbeats 8000000 in
theorem rfits_any (v xv : Value) (r : Round) (x : Truth) (w : World) (hr : RoundAt w v r) (hx : TruthAt w xv x) (hB : RoundB r) (ht : truthB r x = true) :
    Calls Tryz.prog 40 #[v, xv, .int .i64 (-1)] w fun e w' => e = .returned (.bool (fitsB r x (-1))) ∧ Ext w w' := by
  obtain ⟨hv, rfl, hh⟩ := hr
  have hr' : RoundAt w (.agg (r.cells hv).toArray) r := ⟨hv, rfl, hh⟩
  obtain ⟨fv, lv, rfl, hf, hl⟩ := hx
  have HRB := Lib.hid hB
  have ht' : (decide (x.full.length = r.houses.length) && decide (x.loose.length = r.houses.length)) = true := ht
  rw [Bool.and_eq_true, decide_eq_true_eq, decide_eq_true_eq] at ht'
  obtain ⟨HLF, HLL⟩ := And.intro (Lib.hid ht'.1) (Lib.hid ht'.2)
  have HBR := Lib.hid (fun i h button full loose w1 (hx : Ext w w1) (hi : r.houses[i]? = some h) (hw : r.lo ≤ button) (hw' : button ≤ r.hi) => rbrought_any _ r i h button full loose w1 (hr'.ext hx) hB hi hw hw')
  obtain ⟨a, c, rfl, h1, h2, h3⟩ := hh.open
  obtain ⟨fa, fc, rfl, f1, f2, f3⟩ := hf.open
  obtain ⟨la, lc, rfl, l1, l2, l3⟩ := hl.open
  have HH3 := Lib.hid h3
  have HF3 := Lib.hid f3
  have HL3 := Lib.hid l3
  have hn4 := hB.h2
  have p1 := hB.p1
  have p2 := hB.p2
  have a1 := hB.a1
  have a2 := hB.a2
  have o1 := hB.o1
  have o2 := hB.o2
  unfold Round.cells at *
  have hx0 : Ext w ((w.alloc (boxD r a c)).alloc (boxT x fa la fc lc)) := ((Ext.refl w).alloc _).alloc _
  have HBX := Lib.hid (fun W (h : Ext ((w.alloc (boxD r a c)).alloc (boxT x fa la fc lc)) W) => And.intro (round_cells ((h.block (by simp; omega)).trans (two_new w (boxD r a c) (boxT x fa la fc lc)).1)) (show W.heap[w.heap.size + 1]? = some (boxT x fa la fc lc) from (h.block (by simp)).trans (two_new w (boxD r a c) (boxT x fa la fc lc)).2))
  have HY := Lib.hid (fun (W : World) (h : W.heap[w.heap.size + 1]? = some (boxT x fa la fc lc)) => show W.cell? ⟨w.heap.size + 1, 0, none⟩ = some (.int .i64 x.button) ∧ W.cell? ⟨w.heap.size + 1, 1, none⟩ = some (.slice fa x.full.length fc) ∧ W.cell? ⟨w.heap.size + 1, 2, none⟩ = some (.slice la x.loose.length lc) by simp [World.cell?, h])
  have hmix : Tryz.prog.follows .mixedOrders = true := by kernel_rfl
  clear hr' hh hf hl h3 f3 l3 hB ht ht'
  cases hi : inB x.button r.lo r.hi with
  | false =>
    have HF : Hid (fitsB r x (-1) = false) := by unfold Hid fitsB; rw [hi]; rfl
    clear hn4 p1 p2 a1 a2 o1 o2
    go_enter Tryz.func40, Tryz.ntmps40
    go_wp2_with (go_at_call 63; refine (hi ▸ rin_any x.button r.lo r.hi _).mono ?_; rintro e w' ⟨rfl, rfl⟩)
    go_ret
    exact ⟨by rw [HF.out] <;> rfl, hx0⟩
  | true =>
    obtain ⟨b1, b2⟩ := inB_iff.1 hi
    have HI := Lib.hid (fun w1 => hi ▸ rin_any x.button r.lo r.hi w1)
    have HFB : Hid (okUp r x (-1) r.houses.length = true → inB (sumT r x r.houses.length - r.all) (-r.off) r.off = fitsB r x (-1)) := fun h => by unfold fitsB; rw [hi, h]; simp
    clear hi
    go_enter Tryz.func40, Tryz.ntmps40
    go_wp2_with (go_at_call 63; refine (HI.out _).mono ?_; rintro e w' ⟨rfl, rfl⟩)
    have HW : Hid (((w.alloc (boxD r a c)).alloc (boxT x fa la fc lc)) = ((w.alloc (boxD r a c)).alloc (boxT x fa la fc lc))) := Lib.hid rfl
    generalize hW : ((w.alloc (boxD r a c)).alloc (boxT x fa la fc lc)) = W at *
    go_loopw [7, 8] (fun all i wr => ∃ k : Nat, k ≤ r.houses.length ∧ i = .int .i64 k ∧ all = .int .i64 (sumT r x k) ∧ Hid (okUp r x (-1) k = true) ∧ Ext W wr) (fun _ i _ => r.houses.length - (intOf i).toNat)
    case atStart => exact ⟨0, Nat.zero_le _, rfl, rfl, rfl, Ext.refl _⟩
    case round =>
      obtain ⟨k, hk, rfl, rfl, hup, hxr⟩ := hrel
      obtain ⟨⟨z0, z1, z2, z3, z4, z5, z6, z7⟩, hbx⟩ := HBX.out _ hxr
      obtain ⟨y0, y1, y2⟩ := HY.out _ hbx
      have hxw := hx0.trans hxr
      clear hbx
      have hsb := sumT_bd HRB.out hk hup.out
      by_cases hlt : k < r.houses.length
      · obtain ⟨hb, ho, h, rfl, hhk, c0, c1, c2, c3, c4, c5⟩ := HH3.out k hlt
        obtain ⟨fb, fo, fk, rfl, hfk, g0⟩ := HF3.out k (by rw [HLF.out]; exact hlt)
        obtain ⟨lb, lo, lk, rfl, hlk, g1⟩ := HL3.out k (by rw [HLL.out]; exact hlt)
        have d0 := hxw.cell c0
        have d1 := hxw.cell c1
        have d2 := hxw.cell c2
        have d3 := hxw.cell c3
        have d4 := hxw.cell c4
        have d5 := hxw.cell c5
        have e0 := hxw.cell g0
        have e1 := hxw.cell g1
        clear c0 c1 c2 c3 c4 c5 g0 g1
        have HBAD := Lib.hid (HRB.out.hs h (List.mem_of_getElem? hhk.out))
        have hgh : r.houses.getD k noHouse = h := by rw [List.getD_eq_getElem?_getD, hhk.out]; rfl
        have hgf : x.full.getD k 0 = fk := by rw [List.getD_eq_getElem?_getD, hfk.out]; rfl
        have hgl : x.loose.getD k 0 = lk := by rw [List.getD_eq_getElem?_getD, hlk.out]; rfl
        have hok : okT r x (-1) k = (canB r x.button h fk lk && countsB h fk lk) := by
          unfold okT
          rw [hgh, hgf, hgl]
          have hm : decide ((k : Int) = -1) = false := by simp
          rw [hm, Bool.false_or]
        have HOK := Lib.hid hok
        have hsm : sumT r x (k + 1) = sumT r x k + nOf r fk lk := by rw [← hgf, ← hgl]; rfl
        have HSM := Lib.hid hsm
        have HUP := Lib.hid (okUp_succ r x (-1) k)
        have x2 : decide ((k : Int) < (r.houses.length : Int)) = true := by simpa using hlt
        have x3 : k < x.full.length := by rw [HLF.out]; exact hlt
        have x4 : (k : Int) < (x.full.length : Int) := by omega
        have x5 : k < x.loose.length := by rw [HLL.out]; exact hlt
        have x6 : (k : Int) < (x.loose.length : Int) := by omega
        have x7 : (0 : Int) ≤ (k : Int) := by omega
        have x8 : ((k : Int) != (-1 : Int)) = true := by rw [bne_iff_ne]; omega
        have x9 : ((k : Int) == (-1 : Int)) = false := by rw [beq_eq_false_iff_ne]; omega
        have x10 : (k : Int) < (r.houses.length : Int) := by omega
        clear hgh hgf hgl hok hsm
        have HBT := Lib.hid (fun w1 (hx : Ext wr w1) => HBR.out k h x.button fk lk w1 (hxw.trans hx) hhk.out b1 b2)
        have HS : Hid (∀ W1, Ext wr W1 → W1.cell? ⟨w.heap.size, 0, none⟩ = some (.int .i64 r.per) ∧ W1.cell? ⟨w.heap.size, 1, none⟩ = some (.int .i64 r.lo) ∧ W1.cell? ⟨w.heap.size, 2, none⟩ = some (.int .i64 r.hi) ∧ W1.cell? ⟨w.heap.size, 3, none⟩ = some (.int .i64 r.card) ∧ W1.cell? ⟨w.heap.size, 4, none⟩ = some (.int .i64 r.slack) ∧ W1.cell? ⟨w.heap.size, 5, none⟩ = some (.slice (some ⟨hb, ho, none⟩) r.houses.length c) ∧ W1.cell? ⟨w.heap.size, 6, none⟩ = some (.int .i64 r.all) ∧ W1.cell? ⟨w.heap.size, 7, none⟩ = some (.int .i64 r.off) ∧ W1.cell? ⟨w.heap.size + 1, 0, none⟩ = some (.int .i64 x.button) ∧ W1.cell? ⟨w.heap.size + 1, 1, none⟩ = some (.slice (some ⟨fb, fo, none⟩) x.full.length fc) ∧ W1.cell? ⟨w.heap.size + 1, 2, none⟩ = some (.slice (some ⟨lb, lo, none⟩) x.loose.length lc) ∧ W1.cell? ⟨fb, fo + k, none⟩ = some (.int .i64 fk) ∧ W1.cell? ⟨lb, lo + k, none⟩ = some (.int .i64 lk) ∧ W1.cell? ⟨hb, ho + k * 6, none⟩ = some (.int .i64 h.out) ∧ W1.cell? ⟨hb, ho + k * 6 + 1, none⟩ = some (.int .i64 h.cards) ∧ W1.cell? ⟨hb, ho + k * 6 + 2, none⟩ = some (.int .i64 h.full) ∧ W1.cell? ⟨hb, ho + k * 6 + 3, none⟩ = some (.int .i64 h.loose) ∧ W1.cell? ⟨hb, ho + k * 6 + 4, none⟩ = some (.int .i64 h.miss) ∧ W1.cell? ⟨hb, ho + k * 6 + 5, none⟩ = some (.int .i64 h.weighed)) := fun W1 h1 => ⟨h1.cell z0, h1.cell z1, h1.cell z2, h1.cell z3, h1.cell z4, h1.cell z5, h1.cell z6, h1.cell z7, h1.cell y0, h1.cell y1, h1.cell y2, h1.cell e0, h1.cell e1, h1.cell d0, h1.cell d1, h1.cell d2, h1.cell d3, h1.cell d4, h1.cell d5⟩
        cases hcan : canB r x.button h fk lk with
        | false =>
          have HNB : Hid (fitsB r x (-1) = false) := fitsB_no hlt (by rw [HOK.out, hcan]; rfl)
          rw [hcan] at HBT
          clear hcan
          go_upto_region 7 with fail
          refine wp_region_held_drew (S := (fun w' => w'.cell? ⟨w.heap.size, 0, none⟩ = some (.int .i64 r.per) ∧ w'.cell? ⟨w.heap.size, 1, none⟩ = some (.int .i64 r.lo) ∧ w'.cell? ⟨w.heap.size, 2, none⟩ = some (.int .i64 r.hi) ∧ w'.cell? ⟨w.heap.size, 3, none⟩ = some (.int .i64 r.card) ∧ w'.cell? ⟨w.heap.size, 4, none⟩ = some (.int .i64 r.slack) ∧ w'.cell? ⟨w.heap.size, 5, none⟩ = some (.slice (some ⟨hb, ho, none⟩) r.houses.length c) ∧ w'.cell? ⟨w.heap.size, 6, none⟩ = some (.int .i64 r.all) ∧ w'.cell? ⟨w.heap.size, 7, none⟩ = some (.int .i64 r.off) ∧ w'.cell? ⟨w.heap.size + 1, 0, none⟩ = some (.int .i64 x.button) ∧ w'.cell? ⟨w.heap.size + 1, 1, none⟩ = some (.slice (some ⟨fb, fo, none⟩) x.full.length fc) ∧ w'.cell? ⟨w.heap.size + 1, 2, none⟩ = some (.slice (some ⟨lb, lo, none⟩) x.loose.length lc) ∧ w'.cell? ⟨fb, fo + k, none⟩ = some (.int .i64 fk) ∧ w'.cell? ⟨lb, lo + k, none⟩ = some (.int .i64 lk) ∧ w'.cell? ⟨hb, ho + k * 6, none⟩ = some (.int .i64 h.out) ∧ w'.cell? ⟨hb, ho + k * 6 + 1, none⟩ = some (.int .i64 h.cards) ∧ w'.cell? ⟨hb, ho + k * 6 + 2, none⟩ = some (.int .i64 h.full) ∧ w'.cell? ⟨hb, ho + k * 6 + 3, none⟩ = some (.int .i64 h.loose) ∧ w'.cell? ⟨hb, ho + k * 6 + 4, none⟩ = some (.int .i64 h.miss) ∧ w'.cell? ⟨hb, ho + k * 6 + 5, none⟩ = some (.int .i64 h.weighed))) (by kernel_rfl) ?_ (fun hHeld => ?_)
          · go_keep
          refine held_take (i := 0) (d := some 26) (v := ?_) (by kernel_rfl) (by kernel_rfl) (by kernel_rfl) (by kernel_rfl) (fun _ _ _ h => h) (fun o ho => ?_) hHeld ?_
          rotate_left
          · simp only [List.getElem?_toArray, List.getElem?_cons_zero, Option.some.injEq] at ho
            subst ho
            refine ⟨by rfl, fun w hSw => ?_⟩
            (try dsimp only at hSw)
            go_simp
            try with_reducible rfl
          try simp only [Act.put, List.setIfInBounds_toArray, List.set_cons_zero, List.set_cons_succ]
          refine held_take (i := 1) (d := some 27) (v := ?_) (by kernel_rfl) (by kernel_rfl) (by kernel_rfl) (by kernel_rfl) (fun _ _ _ h => h) (fun o ho => ?_) hHeld ?_
          rotate_left
          · simp only [List.getElem?_toArray, List.getElem?_cons_zero, List.getElem?_cons_succ, Option.some.injEq] at ho
            subst ho
            refine ⟨by rfl, fun w hSw => ?_⟩
            (try dsimp only at hSw)
            go_simp
            try with_reducible rfl
          try simp only [Act.put, List.setIfInBounds_toArray, List.set_cons_zero, List.set_cons_succ]
          refine held_take (i := 2) (d := some 28) (v := ?_) (by kernel_rfl) (by kernel_rfl) (by kernel_rfl) (by kernel_rfl) (fun _ _ _ h => h) (fun o ho => ?_) hHeld ?_
          rotate_left
          · simp only [List.getElem?_toArray, List.getElem?_cons_zero, List.getElem?_cons_succ, Option.some.injEq] at ho
            subst ho
            refine ⟨by rfl, fun w hSw => ?_⟩
            (try dsimp only at hSw)
            go_simp
            try with_reducible rfl
          try simp only [Act.put, List.setIfInBounds_toArray, List.set_cons_zero, List.set_cons_succ]
          refine held_take (i := 3) (d := some 29) (v := ?_) (by kernel_rfl) (by kernel_rfl) (by kernel_rfl) (by kernel_rfl) (fun _ _ _ h => h) (fun o ho => ?_) hHeld ?_
          rotate_left
          · simp only [List.getElem?_toArray, List.getElem?_cons_zero, List.getElem?_cons_succ, Option.some.injEq] at ho
            subst ho
            refine ⟨by rfl, fun w hSw => ?_⟩
            (try dsimp only at hSw)
            go_simp
            try with_reducible rfl
          try simp only [Act.put, List.setIfInBounds_toArray, List.set_cons_zero, List.set_cons_succ]
          refine held_take (i := 4) (d := some 30) (v := ?_) (by kernel_rfl) (by kernel_rfl) (by kernel_rfl) (by kernel_rfl) (fun _ _ _ h => h) (fun o ho => ?_) hHeld ?_
          rotate_left
          · simp only [List.getElem?_toArray, List.getElem?_cons_zero, List.getElem?_cons_succ, Option.some.injEq] at ho
            subst ho
            refine ⟨by rfl, fun w hSw => ?_⟩
            (try dsimp only at hSw)
            go_simp
            try with_reducible rfl
          try simp only [Act.put, List.setIfInBounds_toArray, List.set_cons_zero, List.set_cons_succ]
          refine held_take (i := 5) (d := some 31) (v := ?_) (by kernel_rfl) (by kernel_rfl) (by kernel_rfl) (by kernel_rfl) (fun _ _ _ h => h) (fun o ho => ?_) hHeld ?_
          rotate_left
          · simp only [List.getElem?_toArray, List.getElem?_cons_zero, List.getElem?_cons_succ, Option.some.injEq] at ho
            subst ho
            refine ⟨by rfl, fun w hSw => ?_⟩
            (try dsimp only at hSw)
            go_simp
            try with_reducible rfl
          try simp only [Act.put, List.setIfInBounds_toArray, List.set_cons_zero, List.set_cons_succ]
          refine held_take (i := 6) (d := some 32) (v := ?_) (by kernel_rfl) (by kernel_rfl) (by kernel_rfl) (by kernel_rfl) (fun _ _ _ h => h) (fun o ho => ?_) hHeld ?_
          rotate_left
          · simp only [List.getElem?_toArray, List.getElem?_cons_zero, List.getElem?_cons_succ, Option.some.injEq] at ho
            subst ho
            refine ⟨by rfl, fun w hSw => ?_⟩
            (try dsimp only at hSw)
            go_simp
            try with_reducible rfl
          try simp only [Act.put, List.setIfInBounds_toArray, List.set_cons_zero, List.set_cons_succ]
          refine held_take (i := 7) (d := some 33) (v := ?_) (by kernel_rfl) (by kernel_rfl) (by kernel_rfl) (by kernel_rfl) (fun _ _ _ h => h) (fun o ho => ?_) hHeld ?_
          rotate_left
          · simp only [List.getElem?_toArray, List.getElem?_cons_zero, List.getElem?_cons_succ, Option.some.injEq] at ho
            subst ho
            refine ⟨by rfl, fun w hSw => ?_⟩
            (try dsimp only at hSw)
            go_simp
            try with_reducible rfl
          try simp only [Act.put, List.setIfInBounds_toArray, List.set_cons_zero, List.set_cons_succ]
          refine held_take (i := 8) (d := some 34) (v := ?_) (by kernel_rfl) (by kernel_rfl) (by kernel_rfl) (by kernel_rfl) (fun _ _ _ h => h) (fun o ho => ?_) hHeld ?_
          rotate_left
          · simp only [List.getElem?_toArray, List.getElem?_cons_zero, List.getElem?_cons_succ, Option.some.injEq] at ho
            subst ho
            refine ⟨by rfl, fun w hSw => ?_⟩
            (try dsimp only at hSw)
            go_simp
            try with_reducible rfl
          try simp only [Act.put, List.setIfInBounds_toArray, List.set_cons_zero, List.set_cons_succ]
          refine held_take (i := 9) (d := some 35) (v := ?_) (by kernel_rfl) (by kernel_rfl) (by kernel_rfl) (by kernel_rfl) (fun _ _ _ h => h) (fun o ho => ?_) hHeld ?_
          rotate_left
          · simp only [List.getElem?_toArray, List.getElem?_cons_zero, List.getElem?_cons_succ, Option.some.injEq] at ho
            subst ho
            refine ⟨by rfl, fun w hSw => ?_⟩
            (try dsimp only at hSw)
            go_simp
            try with_reducible rfl
          try simp only [Act.put, List.setIfInBounds_toArray, List.set_cons_zero, List.set_cons_succ]
          refine held_take (i := 10) (d := some 36) (v := ?_) (by kernel_rfl) (by kernel_rfl) (by kernel_rfl) (by kernel_rfl) (fun _ _ _ h => h) (fun o ho => ?_) hHeld ?_
          rotate_left
          · simp only [List.getElem?_toArray, List.getElem?_cons_zero, List.getElem?_cons_succ, Option.some.injEq] at ho
            subst ho
            refine ⟨by rfl, fun w hSw => ?_⟩
            (try dsimp only at hSw)
            go_simp
            try with_reducible rfl
          try simp only [Act.put, List.setIfInBounds_toArray, List.set_cons_zero, List.set_cons_succ]
          refine held_take (i := 11) (d := some 37) (v := ?_) (by kernel_rfl) (by kernel_rfl) (by kernel_rfl) (by kernel_rfl) (fun _ _ _ h => h) (fun o ho => ?_) hHeld ?_
          rotate_left
          · simp only [List.getElem?_toArray, List.getElem?_cons_zero, List.getElem?_cons_succ, Option.some.injEq] at ho
            subst ho
            refine ⟨by rfl, fun w hSw => ?_⟩
            (try dsimp only at hSw)
            go_simp
            try with_reducible rfl
          try simp only [Act.put, List.setIfInBounds_toArray, List.set_cons_zero, List.set_cons_succ]
          refine held_take (i := 12) (d := some 38) (v := ?_) (by kernel_rfl) (by kernel_rfl) (by kernel_rfl) (by kernel_rfl) (fun _ _ _ h => h) (fun o ho => ?_) hHeld ?_
          rotate_left
          · simp only [List.getElem?_toArray, List.getElem?_cons_zero, List.getElem?_cons_succ, Option.some.injEq] at ho
            subst ho
            refine ⟨by rfl, fun w hSw => ?_⟩
            (try dsimp only at hSw)
            go_simp
            try with_reducible rfl
          try simp only [Act.put, List.setIfInBounds_toArray, List.set_cons_zero, List.set_cons_succ]
          refine held_take (i := 13) (d := some 39) (v := ?_) (by kernel_rfl) (by kernel_rfl) (by kernel_rfl) (by kernel_rfl) (fun _ _ _ h => h) (fun o ho => ?_) hHeld ?_
          rotate_left
          · simp only [List.getElem?_toArray, List.getElem?_cons_zero, List.getElem?_cons_succ, Option.some.injEq] at ho
            subst ho
            refine ⟨by rfl, fun w hSw => ?_⟩
            (try dsimp only at hSw)
            go_simp
            try with_reducible rfl
          try simp only [Act.put, List.setIfInBounds_toArray, List.set_cons_zero, List.set_cons_succ]
          refine wpAnyH_ready (rs := [14]) (by kernel_rfl) (by simp) ?_
          refine held_step (i := 14) (by kernel_rfl) (fun o ho K' hK => ?_) ?_
          · simp only [List.getElem?_toArray, List.getElem?_cons_zero, List.getElem?_cons_succ, Option.some.injEq] at ho
            subst ho
            go_simp
            go_at_call 81
            refine (HBT.out _ ((Ext.refl wr).drew)).mono ?_
            rintro e w1 ⟨rfl, hx1'⟩
            have hx1 : Ext wr w1 := ((Ext.refl wr).drew).trans hx1'
            try go_wp2_with fail
            refine hK.out _ _ ?_ (fun hHeld => ?_)
            · (first | go_keep | exact HS.out _ (by repeat (first | exact hx2 | exact hx1 | exact Ext.refl _ | apply Ext.drew)))
            clear hK K'
            try simp only [List.setIfInBounds_toArray, List.set_cons_zero, List.set_cons_succ]
            refine held_take (i := 15) (d := some 41) (v := ?_) (by kernel_rfl) (by kernel_rfl) (by kernel_rfl) (by kernel_rfl) (fun _ _ _ h => h) (fun o ho => ?_) hHeld ?_
            rotate_left
            · simp only [List.getElem?_toArray, List.getElem?_cons_zero, List.getElem?_cons_succ, Option.some.injEq] at ho
              subst ho
              refine ⟨by rfl, fun w hSw => ?_⟩
              (try dsimp only at hSw)
              go_simp
              try with_reducible rfl
            try simp only [Act.put, List.setIfInBounds_toArray, List.set_cons_zero, List.set_cons_succ]
            refine held_take (i := 16) (d := some 42) (v := ?_) (by kernel_rfl) (by kernel_rfl) (by kernel_rfl) (by kernel_rfl) (fun _ _ _ h => h) (fun o ho => ?_) hHeld ?_
            rotate_left
            · simp only [List.getElem?_toArray, List.getElem?_cons_zero, List.getElem?_cons_succ, Option.some.injEq] at ho
              subst ho
              refine ⟨by rfl, fun w hSw => ?_⟩
              (try dsimp only at hSw)
              go_simp
              try with_reducible rfl
            try simp only [Act.put, List.setIfInBounds_toArray, List.set_cons_zero, List.set_cons_succ]
            refine held_skip (i := 17) (d := some 43) (by kernel_rfl) (by kernel_rfl) (by kernel_rfl) (by kernel_rfl) (by kernel_rfl) (fun _ _ _ h => h) hHeld ?_
            try simp only [Act.put, List.setIfInBounds_toArray, List.set_cons_zero, List.set_cons_succ]
            refine held_skip (i := 18) (d := some 44) (by kernel_rfl) (by kernel_rfl) (by kernel_rfl) (by kernel_rfl) (by kernel_rfl) (fun _ _ _ h => h) hHeld ?_
            try simp only [Act.put, List.setIfInBounds_toArray, List.set_cons_zero, List.set_cons_succ]
            refine held_skip (i := 19) (d := some 45) (by kernel_rfl) (by kernel_rfl) (by kernel_rfl) (by kernel_rfl) (by kernel_rfl) (fun _ _ _ h => h) hHeld ?_
            try simp only [Act.put, List.setIfInBounds_toArray, List.set_cons_zero, List.set_cons_succ]
            refine held_skip (i := 20) (d := some 46) (by kernel_rfl) (by kernel_rfl) (by kernel_rfl) (by kernel_rfl) (by kernel_rfl) (fun _ _ _ h => h) hHeld ?_
            try simp only [Act.put, List.setIfInBounds_toArray, List.set_cons_zero, List.set_cons_succ]
            refine held_skip (i := 21) (d := some 47) (by kernel_rfl) (by kernel_rfl) (by kernel_rfl) (by kernel_rfl) (by kernel_rfl) (fun _ _ _ h => h) hHeld ?_
            try simp only [Act.put, List.setIfInBounds_toArray, List.set_cons_zero, List.set_cons_succ]
            refine held_skip (i := 22) (d := some 48) (by kernel_rfl) (by kernel_rfl) (by kernel_rfl) (by kernel_rfl) (by kernel_rfl) (fun _ _ _ h => h) hHeld ?_
            try simp only [Act.put, List.setIfInBounds_toArray, List.set_cons_zero, List.set_cons_succ]
            refine held_skip (i := 23) (d := some 49) (by kernel_rfl) (by kernel_rfl) (by kernel_rfl) (by kernel_rfl) (by kernel_rfl) (fun _ _ _ h => h) hHeld ?_
            try simp only [Act.put, List.setIfInBounds_toArray, List.set_cons_zero, List.set_cons_succ]
            refine held_skip (i := 24) (d := some 50) (by kernel_rfl) (by kernel_rfl) (by kernel_rfl) (by kernel_rfl) (by kernel_rfl) (fun _ _ _ h => h) hHeld ?_
            try simp only [Act.put, List.setIfInBounds_toArray, List.set_cons_zero, List.set_cons_succ]
            refine held_skip (i := 25) (d := some 51) (by kernel_rfl) (by kernel_rfl) (by kernel_rfl) (by kernel_rfl) (by kernel_rfl) (fun _ _ _ h => h) hHeld ?_
            try simp only [Act.put, List.setIfInBounds_toArray, List.set_cons_zero, List.set_cons_succ]
            refine held_skip (i := 26) (d := some 52) (by kernel_rfl) (by kernel_rfl) (by kernel_rfl) (by kernel_rfl) (by kernel_rfl) (fun _ _ _ h => h) hHeld ?_
            try simp only [Act.put, List.setIfInBounds_toArray, List.set_cons_zero, List.set_cons_succ]
            refine held_skip (i := 27) (d := some 53) (by kernel_rfl) (by kernel_rfl) (by kernel_rfl) (by kernel_rfl) (by kernel_rfl) (fun _ _ _ h => h) hHeld ?_
            try simp only [Act.put, List.setIfInBounds_toArray, List.set_cons_zero, List.set_cons_succ]
            refine held_skip (i := 28) (d := some 54) (by kernel_rfl) (by kernel_rfl) (by kernel_rfl) (by kernel_rfl) (by kernel_rfl) (fun _ _ _ h => h) hHeld ?_
            try simp only [Act.put, List.setIfInBounds_toArray, List.set_cons_zero, List.set_cons_succ]
            refine held_skip (i := 29) (d := some 55) (by kernel_rfl) (by kernel_rfl) (by kernel_rfl) (by kernel_rfl) (by kernel_rfl) (fun _ _ _ h => h) hHeld ?_
            try simp only [Act.put, List.setIfInBounds_toArray, List.set_cons_zero, List.set_cons_succ]
            refine held_skip (i := 30) (d := some 56) (by kernel_rfl) (by kernel_rfl) (by kernel_rfl) (by kernel_rfl) (by kernel_rfl) (fun _ _ _ h => h) hHeld ?_
            try simp only [Act.put, List.setIfInBounds_toArray, List.set_cons_zero, List.set_cons_succ]
            refine held_skip (i := 31) (d := some 57) (by kernel_rfl) (by kernel_rfl) (by kernel_rfl) (by kernel_rfl) (by kernel_rfl) (fun _ _ _ h => h) hHeld ?_
            try simp only [Act.put, List.setIfInBounds_toArray, List.set_cons_zero, List.set_cons_succ]
            refine held_skip (i := 32) (d := some 58) (by kernel_rfl) (by kernel_rfl) (by kernel_rfl) (by kernel_rfl) (by kernel_rfl) (fun _ _ _ h => h) hHeld ?_
            try simp only [Act.put, List.setIfInBounds_toArray, List.set_cons_zero, List.set_cons_succ]
            refine held_skip (i := 33) (d := some 59) (by kernel_rfl) (by kernel_rfl) (by kernel_rfl) (by kernel_rfl) (by kernel_rfl) (fun _ _ _ h => h) hHeld ?_
            try simp only [Act.put, List.setIfInBounds_toArray, List.set_cons_zero, List.set_cons_succ]
            refine held_skip (i := 34) (d := some 60) (by kernel_rfl) (by kernel_rfl) (by kernel_rfl) (by kernel_rfl) (by kernel_rfl) (fun _ _ _ h => h) hHeld ?_
            try simp only [Act.put, List.setIfInBounds_toArray, List.set_cons_zero, List.set_cons_succ]
            refine held_skip (i := 35) (d := some 61) (by kernel_rfl) (by kernel_rfl) (by kernel_rfl) (by kernel_rfl) (by kernel_rfl) (fun _ _ _ h => h) hHeld ?_
            try simp only [Act.put, List.setIfInBounds_toArray, List.set_cons_zero, List.set_cons_succ]
            refine held_skip (i := 36) (d := some 62) (by kernel_rfl) (by kernel_rfl) (by kernel_rfl) (by kernel_rfl) (by kernel_rfl) (fun _ _ _ h => h) hHeld ?_
            try simp only [Act.put, List.setIfInBounds_toArray, List.set_cons_zero, List.set_cons_succ]
            refine held_skip (i := 37) (d := some 63) (by kernel_rfl) (by kernel_rfl) (by kernel_rfl) (by kernel_rfl) (by kernel_rfl) (fun _ _ _ h => h) hHeld ?_
            try simp only [Act.put, List.setIfInBounds_toArray, List.set_cons_zero, List.set_cons_succ]
            refine held_skip (i := 38) (d := some 64) (by kernel_rfl) (by kernel_rfl) (by kernel_rfl) (by kernel_rfl) (by kernel_rfl) (fun _ _ _ h => h) hHeld ?_
            try simp only [Act.put, List.setIfInBounds_toArray, List.set_cons_zero, List.set_cons_succ]
            refine held_take (i := 39) (d := some 65) (v := ?_) (by kernel_rfl) (by kernel_rfl) (by kernel_rfl) (by kernel_rfl) (fun _ _ _ h => h) (fun o ho => ?_) hHeld ?_
            rotate_left
            · simp only [List.getElem?_toArray, List.getElem?_cons_zero, List.getElem?_cons_succ, Option.some.injEq] at ho
              subst ho
              refine ⟨by rfl, fun w hSw => ?_⟩
              (try dsimp only at hSw)
              go_simp
              try with_reducible rfl
            try simp only [Act.put, List.setIfInBounds_toArray, List.set_cons_zero, List.set_cons_succ]
            refine wpAnyH_done (by kernel_rfl) ?_ _
            try simp only [List.setIfInBounds_toArray, List.set_cons_zero, List.set_cons_succ]
            go_wp2
            go_ret
            exact ⟨by rw [HNB.out] <;> rfl, hxw.trans hx1⟩
          exact AllReadyH.nil
        | true =>
          rw [hcan] at HBT
          have hlb : (0 ≤ fk ∧ fk ≤ h.cards) ∧ 0 ≤ lk ∧ lk ≤ r.per - 1 := by
            unfold canB at hcan
            simp only [Bool.and_eq_true, inB_iff] at hcan
            exact hcan.1.1
          obtain ⟨⟨j1, j2⟩, j3, j4⟩ := hlb
          have hbc := (badHouse_iff.1 HBAD.out).2.1
          have HCT := Lib.hid (fun w1 => rcounted_any h fk lk w1 HBAD.out j1 (by omega) j3 (by omega))
          unfold House.cells at HCT
          cases hcnt : countsB h fk lk with
          | false =>
            have HNB : Hid (fitsB r x (-1) = false) := fitsB_no hlt (by rw [HOK.out, hcan, hcnt]; rfl)
            rw [hcnt] at HCT
            clear hcan hcnt hbc j1 j2 j3 j4
            go_upto_region 7 with fail
            go_region_held3 (fun w' => w'.cell? ⟨w.heap.size, 0, none⟩ = some (.int .i64 r.per) ∧ w'.cell? ⟨w.heap.size, 1, none⟩ = some (.int .i64 r.lo) ∧ w'.cell? ⟨w.heap.size, 2, none⟩ = some (.int .i64 r.hi) ∧ w'.cell? ⟨w.heap.size, 3, none⟩ = some (.int .i64 r.card) ∧ w'.cell? ⟨w.heap.size, 4, none⟩ = some (.int .i64 r.slack) ∧ w'.cell? ⟨w.heap.size, 5, none⟩ = some (.slice (some ⟨hb, ho, none⟩) r.houses.length c) ∧ w'.cell? ⟨w.heap.size, 6, none⟩ = some (.int .i64 r.all) ∧ w'.cell? ⟨w.heap.size, 7, none⟩ = some (.int .i64 r.off) ∧ w'.cell? ⟨w.heap.size + 1, 0, none⟩ = some (.int .i64 x.button) ∧ w'.cell? ⟨w.heap.size + 1, 1, none⟩ = some (.slice (some ⟨fb, fo, none⟩) x.full.length fc) ∧ w'.cell? ⟨w.heap.size + 1, 2, none⟩ = some (.slice (some ⟨lb, lo, none⟩) x.loose.length lc) ∧ w'.cell? ⟨fb, fo + k, none⟩ = some (.int .i64 fk) ∧ w'.cell? ⟨lb, lo + k, none⟩ = some (.int .i64 lk) ∧ w'.cell? ⟨hb, ho + k * 6, none⟩ = some (.int .i64 h.out) ∧ w'.cell? ⟨hb, ho + k * 6 + 1, none⟩ = some (.int .i64 h.cards) ∧ w'.cell? ⟨hb, ho + k * 6 + 2, none⟩ = some (.int .i64 h.full) ∧ w'.cell? ⟨hb, ho + k * 6 + 3, none⟩ = some (.int .i64 h.loose) ∧ w'.cell? ⟨hb, ho + k * 6 + 4, none⟩ = some (.int .i64 h.miss) ∧ w'.cell? ⟨hb, ho + k * 6 + 5, none⟩ = some (.int .i64 h.weighed))
              (first | go_keep | exact HS.out _ (by repeat (first | exact hx2 | exact hx1 | exact Ext.refl _ | apply Ext.drew)))
              (first
                | (go_at_call 81; refine (HBT.out _ ((Ext.refl wr).drew)).mono ?_; rintro e w1 ⟨rfl, hx1'⟩; have hx1 : Ext wr w1 := ((Ext.refl wr).drew).trans hx1')
                | (go_at_call 82; refine (HCT.out _).mono ?_; rintro e w2 ⟨rfl, hx2'⟩; have hx2 : Ext wr w2 := hx1.trans hx2'))
            go_wp2
            go_ret
            exact ⟨by rw [HNB.out] <;> rfl, hxw.trans hx2⟩
          | true =>
            have HUP2 : Hid (okUp r x (-1) (k + 1) = true) := by unfold Hid; rw [HUP.out, hup.out, HOK.out, hcan, hcnt]; rfl
            rw [hcnt] at HCT
            clear hcan hcnt
            have hsb2 := sumT_bd HRB.out (k := k + 1) hlt HUP2.out
            have hn2 := Int.mul_nonneg (a := r.per) (b := fk) (by omega) j1
            have hn3 : nOf r fk lk = fk * r.per + lk := by unfold nOf; rw [Int.mul_comm]
            rw [HSM.out, hn3] at hsb2
            rw [Int.mul_comm] at hn2
            obtain ⟨m1, m2⟩ := hsb2
            obtain ⟨m3, m4⟩ := hsb
            have HSM2 : Hid (sumT r x (k + 1) = sumT r x k + fk * r.per + lk) := by unfold Hid; rw [HSM.out, hn3, Int.add_assoc]
            clear hn3 HSM
            generalize hss : sumT r x k = ss at *
            clear hss
            go_upto_region 7 with fail
            go_region_held3 (fun w' => w'.cell? ⟨w.heap.size, 0, none⟩ = some (.int .i64 r.per) ∧ w'.cell? ⟨w.heap.size, 1, none⟩ = some (.int .i64 r.lo) ∧ w'.cell? ⟨w.heap.size, 2, none⟩ = some (.int .i64 r.hi) ∧ w'.cell? ⟨w.heap.size, 3, none⟩ = some (.int .i64 r.card) ∧ w'.cell? ⟨w.heap.size, 4, none⟩ = some (.int .i64 r.slack) ∧ w'.cell? ⟨w.heap.size, 5, none⟩ = some (.slice (some ⟨hb, ho, none⟩) r.houses.length c) ∧ w'.cell? ⟨w.heap.size, 6, none⟩ = some (.int .i64 r.all) ∧ w'.cell? ⟨w.heap.size, 7, none⟩ = some (.int .i64 r.off) ∧ w'.cell? ⟨w.heap.size + 1, 0, none⟩ = some (.int .i64 x.button) ∧ w'.cell? ⟨w.heap.size + 1, 1, none⟩ = some (.slice (some ⟨fb, fo, none⟩) x.full.length fc) ∧ w'.cell? ⟨w.heap.size + 1, 2, none⟩ = some (.slice (some ⟨lb, lo, none⟩) x.loose.length lc) ∧ w'.cell? ⟨fb, fo + k, none⟩ = some (.int .i64 fk) ∧ w'.cell? ⟨lb, lo + k, none⟩ = some (.int .i64 lk) ∧ w'.cell? ⟨hb, ho + k * 6, none⟩ = some (.int .i64 h.out) ∧ w'.cell? ⟨hb, ho + k * 6 + 1, none⟩ = some (.int .i64 h.cards) ∧ w'.cell? ⟨hb, ho + k * 6 + 2, none⟩ = some (.int .i64 h.full) ∧ w'.cell? ⟨hb, ho + k * 6 + 3, none⟩ = some (.int .i64 h.loose) ∧ w'.cell? ⟨hb, ho + k * 6 + 4, none⟩ = some (.int .i64 h.miss) ∧ w'.cell? ⟨hb, ho + k * 6 + 5, none⟩ = some (.int .i64 h.weighed))
              (first | go_keep | exact HS.out _ (by repeat (first | exact hx2 | exact hx1 | exact Ext.refl _ | apply Ext.drew)))
              (first
                | (go_at_call 81; refine (HBT.out _ ((Ext.refl wr).drew)).mono ?_; rintro e w1 ⟨rfl, hx1'⟩; have hx1 : Ext wr w1 := ((Ext.refl wr).drew).trans hx1')
                | (go_at_call 82; refine (HCT.out _).mono ?_; rintro e w2 ⟨rfl, hx2'⟩; have hx2 : Ext wr w2 := hx1.trans hx2'))
            clear z0 z1 z2 z3 z4 z5 z6 z7 y0 y1 y2 e0 e1 d0 d1 d2 d3 d4 d5
            obtain ⟨z0, z1, z2, z3, z4, z5, z6, z7, y0, y1, y2, e0, e1, d0, d1, d2, d3, d4, d5⟩ := HS.out w2 hx2
            have E1 : IntKind.i64.wrap (fk * r.per) = fk * r.per := IntWalk.i64_in _ (by omega)
            have E2 : IntKind.i64.wrap (ss + fk * r.per) = ss + fk * r.per := IntWalk.i64_in _ (by omega)
            have E3 : IntKind.i64.wrap (ss + fk * r.per + lk) = ss + fk * r.per + lk := IntWalk.i64_in _ (by omega)
            go_upto_region 9 with fail
            go_quiet (fail)
            clear E1 E2 E3
            go_wp2
            go_roundw
            case rel => exact ⟨k + 1, by omega, by go_num, by rw [HSM2.out] <;> rfl, HUP2.out, hxr.trans (hx2.drewN _)⟩
            case measure => simp [intOf]; omega
      · have hke : k = r.houses.length := by omega
        subst hke
        have x2 : decide ((r.houses.length : Int) < (r.houses.length : Int)) = false := by simp
        obtain ⟨m3, m4⟩ := hsb
        have HFE := Lib.hid (HFB.out hup.out)
        have E1 : IntKind.i64.wrap (sumT r x r.houses.length - r.all) = sumT r x r.houses.length - r.all := IntWalk.i64_in _ (by omega)
        go_wp2_with (go_at_call 63; refine (rin_any _ _ _ _).mono ?_; rintro e w' ⟨rfl, rfl⟩)
        go_ret
        exact ⟨by rw [HFE.out] <;> rfl, hxw⟩

set_option maxRecDepth 100000 in
set_option maxHeartbeats 8000000 in
theorem cardRuns_any (v : Value) (r : Round) (xv : Value) (x : Truth) (w : World) (hr : RoundAt w v r) (hx : TruthAt w xv x) (ht : TabOk w) : Calls Tryz.prog 7 #[v, xv] w (TrueP w) := by
  obtain ⟨hv, rfl, hh⟩ := hr
  have hr' : RoundAt w (.agg (r.cells hv).toArray) r := ⟨hv, rfl, hh⟩
  have hx' := hx
  obtain ⟨fv, lv, rfl, hf, hl⟩ := hx
  obtain ⟨a, c, rfl, h1, h2, _⟩ := hh.open
  obtain ⟨fa, fc, rfl, f1, f2, _⟩ := hf.open
  obtain ⟨la, lc, rfl, l1, l2, _⟩ := hl.open
  have hx0 : Ext w ((w.alloc (boxD r a c)).alloc (boxT x fa la fc lc)) := ((Ext.refl w).alloc _).alloc _
  have HX0 := Lib.hid hx0
  have HSL := Lib.hid (fun w1 (hx : Ext ((w.alloc (boxD r a c)).alloc (boxT x fa la fc lc)) w1) => slim_any _ r w1 (hr'.ext (hx0.trans hx)))
  have HBF := Lib.hid (fun w1 (hx : Ext ((w.alloc (boxD r a c)).alloc (boxT x fa la fc lc)) w1) => brief_any _ x w1 (hx'.ext (hx0.trans hx)))
  have HCK := Lib.hid (fun w1 (hx : Ext ((w.alloc (boxD r a c)).alloc (boxT x fa la fc lc)) w1) => check_any _ r w1 (hr'.ext (hx0.trans hx)))
  have HFT := Lib.hid (fun w1 (hx : Ext ((w.alloc (boxD r a c)).alloc (boxT x fa la fc lc)) w1) => fits_any _ _ r x w1 (hr'.ext (hx0.trans hx)) (hx'.ext (hx0.trans hx)))
  have HRR := Lib.hid (fun w1 (hx : Ext ((w.alloc (boxD r a c)).alloc (boxT x fa la fc lc)) w1) => rround_any _ r w1 (hr'.ext (hx0.trans hx)))
  have HRT := Lib.hid (fun w1 (hx : Ext ((w.alloc (boxD r a c)).alloc (boxT x fa la fc lc)) w1) => rtruth_any _ _ r x w1 (hr'.ext (hx0.trans hx)) (hx'.ext (hx0.trans hx)))
  have HRF := Lib.hid (fun (hB : RoundB r) (ht : truthB r x = true) w1 (hx : Ext ((w.alloc (boxD r a c)).alloc (boxT x fa la fc lc)) w1) => rfits_any _ _ r x w1 (hr'.ext (hx0.trans hx)) (hx'.ext (hx0.trans hx)) hB ht)
  have HL := Lib.hid (fun w1 (hx : Ext ((w.alloc (boxD r a c)).alloc (boxT x fa la fc lc)) w1) => lknown_any w1 (ht.ext (hx0.trans hx)))
  have HB := Lib.hid (fun W (h : Ext ((w.alloc (boxD r a c)).alloc (boxT x fa la fc lc)) W) => And.intro (round_cells ((h.block (by simp; omega)).trans (two_new w (boxD r a c) (boxT x fa la fc lc)).1)) (show W.cell? ⟨w.heap.size + 1, 0, none⟩ = some (.int .i64 x.button) ∧ W.cell? ⟨w.heap.size + 1, 1, none⟩ = some (.slice fa x.full.length fc) ∧ W.cell? ⟨w.heap.size + 1, 2, none⟩ = some (.slice la x.loose.length lc) by
    have hb := (h.block (b := w.heap.size + 1) (by simp)).trans (two_new w (boxD r a c) (boxT x fa la fc lc)).2
    simp [World.cell?, hb]))
  unfold Round.cells at *
  clear hr' hx' hh hx0 ht hf hl
  cases hs : slimB r with
  | false =>
    rw [hs] at HSL
    clear hs
    go_enter Tryz.func7, Tryz.ntmps7
    go_wp2_with (first
      | (go_at_call 10; refine (HSL.out _ (Ext.refl _)).mono ?_; rintro e w1 ⟨rfl, hx1⟩; obtain ⟨⟨z0, z1, z2, z3, z4, z5, z6, z7⟩, y0, y1, y2⟩ := HB.out _ hx1)
      | (go_at_call 11; refine (HL.out _ hx1).mono ?_; rintro e w9 ⟨rfl, hx9⟩))
    go_ret
    exact ⟨rfl, (HX0.out.trans hx1).trans hx9⟩
  | true =>
    rw [hs] at HSL
    clear hs
    cases hbr : briefB x with
    | false =>
      rw [hbr] at HBF
      clear hbr
      go_enter Tryz.func7, Tryz.ntmps7
      go_wp2_with (first
        | (go_at_call 10; refine (HSL.out _ (Ext.refl _)).mono ?_; rintro e w1 ⟨rfl, hx1⟩; obtain ⟨⟨z0, z1, z2, z3, z4, z5, z6, z7⟩, y0, y1, y2⟩ := HB.out _ hx1)
        | (go_at_call 30; refine (HBF.out _ hx1).mono ?_; rintro e w2 ⟨rfl, hx2⟩; have hx12 := hx1.trans hx2; clear z0 z1 z2 z3 z4 z5 z6 z7 y0 y1 y2; obtain ⟨⟨z0, z1, z2, z3, z4, z5, z6, z7⟩, y0, y1, y2⟩ := HB.out _ hx12)
        | (go_at_call 11; refine (HL.out _ hx12).mono ?_; rintro e w9 ⟨rfl, hx9⟩))
      go_ret
      exact ⟨rfl, (HX0.out.trans hx12).trans hx9⟩
    | true =>
      rw [hbr] at HBF
      clear hbr
      cases hb : isRoundB r with
      | false =>
        rw [hb] at HRR
        have HCK2 := Lib.hid (fun w1 hx => (HCK.out w1 hx).mono (R' := fun e w' => e = .returned (.int .i64 2) ∧ Ext w1 w') (fun e w' h => by rw [hb] at h; exact h))
        clear HCK
        have HNO : Hid (¬ (isRoundB r = true ∧ truthB r x = true)) := fun h => by rw [hb] at h; cases h.1
        clear hb
        have tok1 : True := trivial
        go_enter Tryz.func7, Tryz.ntmps7
        go_wp2_with (first
          | (go_at_call 10; refine (HSL.out _ (Ext.refl _)).mono ?_; rintro e w1 ⟨rfl, hx1⟩; obtain ⟨⟨z0, z1, z2, z3, z4, z5, z6, z7⟩, y0, y1, y2⟩ := HB.out _ hx1)
          | (go_at_call 30; refine (HBF.out _ hx1).mono ?_; rintro e w2 ⟨rfl, hx2⟩; have hx12 := hx1.trans hx2; clear z0 z1 z2 z3 z4 z5 z6 z7 y0 y1 y2; obtain ⟨⟨z0, z1, z2, z3, z4, z5, z6, z7⟩, y0, y1, y2⟩ := HB.out _ hx12)
          | (go_at_call 39; refine (HCK2.out _ hx12).mono ?_; rintro e w3 ⟨rfl, hx3⟩; have hx13 := hx12.trans hx3; clear z0 z1 z2 z3 z4 z5 z6 z7 y0 y1 y2; obtain ⟨⟨z0, z1, z2, z3, z4, z5, z6, z7⟩, y0, y1, y2⟩ := HB.out _ hx13)
          | (go_at_call 34; refine (HFT.out _ hx13).mono ?_; rintro e w4 ⟨is, err, rfl, hx4, hq⟩; rw [if_neg HNO.out] at hq; obtain ⟨rfl, rfl⟩ := hq; have hx14 := hx13.trans hx4; clear z0 z1 z2 z3 z4 z5 z6 z7 y0 y1 y2; obtain ⟨⟨z0, z1, z2, z3, z4, z5, z6, z7⟩, y0, y1, y2⟩ := HB.out _ hx14)
          | (go_at_call 13; have _t := tok1; refine (HRR.out _ hx14).mono ?_; rintro e w5 ⟨rfl, hx5⟩; have hx15 := hx14.trans hx5; clear tok1 _t; clear z0 z1 z2 z3 z4 z5 z6 z7 y0 y1 y2; obtain ⟨⟨z0, z1, z2, z3, z4, z5, z6, z7⟩, y0, y1, y2⟩ := HB.out _ hx15)
          | (go_at_call 13; refine (HRR.out _ hx15).mono ?_; rintro e w6 ⟨rfl, hx6⟩; have hx16 := hx15.trans hx6; clear z0 z1 z2 z3 z4 z5 z6 z7 y0 y1 y2; obtain ⟨⟨z0, z1, z2, z3, z4, z5, z6, z7⟩, y0, y1, y2⟩ := HB.out _ hx16)
          | (go_at_call 11; refine (HL.out _ hx16).mono ?_; rintro e w9 ⟨rfl, hx9⟩))
        go_ret
        exact ⟨rfl, (HX0.out.trans hx16).trans hx9⟩
      | true =>
        have hB := Lib.hid (roundB_of hb)
        rw [hb] at HRR
        have HCK2 := Lib.hid (fun w1 hx => (HCK.out w1 hx).mono (R' := fun e w' => e = .returned (.int .i64 0) ∧ Ext w1 w') (fun e w' h => by rw [hb] at h; exact h))
        clear HCK
        cases htr : truthB r x with
        | false =>
          rw [htr] at HRT
          have HNO : Hid (¬ (isRoundB r = true ∧ truthB r x = true)) := fun h => by rw [htr] at h; cases h.2
          clear hb htr
          have tok1 : True := trivial
          go_enter Tryz.func7, Tryz.ntmps7
          go_wp2_with (first
            | (go_at_call 10; refine (HSL.out _ (Ext.refl _)).mono ?_; rintro e w1 ⟨rfl, hx1⟩; obtain ⟨⟨z0, z1, z2, z3, z4, z5, z6, z7⟩, y0, y1, y2⟩ := HB.out _ hx1)
            | (go_at_call 30; refine (HBF.out _ hx1).mono ?_; rintro e w2 ⟨rfl, hx2⟩; have hx12 := hx1.trans hx2; clear z0 z1 z2 z3 z4 z5 z6 z7 y0 y1 y2; obtain ⟨⟨z0, z1, z2, z3, z4, z5, z6, z7⟩, y0, y1, y2⟩ := HB.out _ hx12)
            | (go_at_call 39; refine (HCK2.out _ hx12).mono ?_; rintro e w3 ⟨rfl, hx3⟩; have hx13 := hx12.trans hx3; clear z0 z1 z2 z3 z4 z5 z6 z7 y0 y1 y2; obtain ⟨⟨z0, z1, z2, z3, z4, z5, z6, z7⟩, y0, y1, y2⟩ := HB.out _ hx13)
            | (go_at_call 34; refine (HFT.out _ hx13).mono ?_; rintro e w4 ⟨is, err, rfl, hx4, hq⟩; rw [if_neg HNO.out] at hq; obtain ⟨rfl, rfl⟩ := hq; have hx14 := hx13.trans hx4; clear z0 z1 z2 z3 z4 z5 z6 z7 y0 y1 y2; obtain ⟨⟨z0, z1, z2, z3, z4, z5, z6, z7⟩, y0, y1, y2⟩ := HB.out _ hx14)
            | (go_at_call 13; have _t := tok1; refine (HRR.out _ hx14).mono ?_; rintro e w5 ⟨rfl, hx5⟩; have hx15 := hx14.trans hx5; clear tok1 _t; clear z0 z1 z2 z3 z4 z5 z6 z7 y0 y1 y2; obtain ⟨⟨z0, z1, z2, z3, z4, z5, z6, z7⟩, y0, y1, y2⟩ := HB.out _ hx15)
            | (go_at_call 13; refine (HRR.out _ hx15).mono ?_; rintro e w6 ⟨rfl, hx6⟩; have hx16 := hx15.trans hx6; clear z0 z1 z2 z3 z4 z5 z6 z7 y0 y1 y2; obtain ⟨⟨z0, z1, z2, z3, z4, z5, z6, z7⟩, y0, y1, y2⟩ := HB.out _ hx16)
            | (go_at_call 31; refine (HRT.out _ hx16).mono ?_; rintro e w7 ⟨rfl, hx7⟩; have hx17 := hx16.trans hx7; clear z0 z1 z2 z3 z4 z5 z6 z7 y0 y1 y2; obtain ⟨⟨z0, z1, z2, z3, z4, z5, z6, z7⟩, y0, y1, y2⟩ := HB.out _ hx17)
            | (go_at_call 11; refine (HL.out _ hx17).mono ?_; rintro e w9 ⟨rfl, hx9⟩))
          go_ret
          exact ⟨rfl, (HX0.out.trans hx17).trans hx9⟩
        | true =>
          rw [htr] at HRT
          have HOK : Hid (isRoundB r = true ∧ truthB r x = true) := ⟨hb, htr⟩
          have HRF2 := Lib.hid (HRF.out hB.out htr)
          clear hb htr HRF
          cases hfb : fitsB r x (-1) with
          | false =>
            have HFB := Lib.hid hfb
            rw [hfb] at HRF2
            clear hfb
            have tok1 : True := trivial
            go_enter Tryz.func7, Tryz.ntmps7
            go_wp2_with (first
              | (go_at_call 10; refine (HSL.out _ (Ext.refl _)).mono ?_; rintro e w1 ⟨rfl, hx1⟩; obtain ⟨⟨z0, z1, z2, z3, z4, z5, z6, z7⟩, y0, y1, y2⟩ := HB.out _ hx1)
              | (go_at_call 30; refine (HBF.out _ hx1).mono ?_; rintro e w2 ⟨rfl, hx2⟩; have hx12 := hx1.trans hx2; clear z0 z1 z2 z3 z4 z5 z6 z7 y0 y1 y2; obtain ⟨⟨z0, z1, z2, z3, z4, z5, z6, z7⟩, y0, y1, y2⟩ := HB.out _ hx12)
              | (go_at_call 39; refine (HCK2.out _ hx12).mono ?_; rintro e w3 ⟨rfl, hx3⟩; have hx13 := hx12.trans hx3; clear z0 z1 z2 z3 z4 z5 z6 z7 y0 y1 y2; obtain ⟨⟨z0, z1, z2, z3, z4, z5, z6, z7⟩, y0, y1, y2⟩ := HB.out _ hx13)
              | (go_at_call 34; refine (HFT.out _ hx13).mono ?_; rintro e w4 ⟨is, err, rfl, hx4, hq⟩; rw [if_pos HOK.out, HFB.out] at hq; obtain ⟨rfl, rfl⟩ := hq; have hx14 := hx13.trans hx4; clear z0 z1 z2 z3 z4 z5 z6 z7 y0 y1 y2; obtain ⟨⟨z0, z1, z2, z3, z4, z5, z6, z7⟩, y0, y1, y2⟩ := HB.out _ hx14)
              | (go_at_call 13; have _t := tok1; refine (HRR.out _ hx14).mono ?_; rintro e w5 ⟨rfl, hx5⟩; have hx15 := hx14.trans hx5; clear tok1 _t; clear z0 z1 z2 z3 z4 z5 z6 z7 y0 y1 y2; obtain ⟨⟨z0, z1, z2, z3, z4, z5, z6, z7⟩, y0, y1, y2⟩ := HB.out _ hx15)
              | (go_at_call 13; refine (HRR.out _ hx15).mono ?_; rintro e w6 ⟨rfl, hx6⟩; have hx16 := hx15.trans hx6; clear z0 z1 z2 z3 z4 z5 z6 z7 y0 y1 y2; obtain ⟨⟨z0, z1, z2, z3, z4, z5, z6, z7⟩, y0, y1, y2⟩ := HB.out _ hx16)
              | (go_at_call 31; refine (HRT.out _ hx16).mono ?_; rintro e w7 ⟨rfl, hx7⟩; have hx17 := hx16.trans hx7; clear z0 z1 z2 z3 z4 z5 z6 z7 y0 y1 y2; obtain ⟨⟨z0, z1, z2, z3, z4, z5, z6, z7⟩, y0, y1, y2⟩ := HB.out _ hx17)
              | (go_at_call 40; refine (HRF2.out _ hx17).mono ?_; rintro e w8 ⟨rfl, hx8⟩; have hx18 := hx17.trans hx8)
              | (go_at_call 11; refine (HL.out _ hx18).mono ?_; rintro e w9 ⟨rfl, hx9⟩))
            go_ret
            exact ⟨rfl, (HX0.out.trans hx18).trans hx9⟩
          | true =>
            have HFB := Lib.hid hfb
            rw [hfb] at HRF2
            clear hfb
            have tok1 : True := trivial
            go_enter Tryz.func7, Tryz.ntmps7
            go_wp2_with (first
              | (go_at_call 10; refine (HSL.out _ (Ext.refl _)).mono ?_; rintro e w1 ⟨rfl, hx1⟩; obtain ⟨⟨z0, z1, z2, z3, z4, z5, z6, z7⟩, y0, y1, y2⟩ := HB.out _ hx1)
              | (go_at_call 30; refine (HBF.out _ hx1).mono ?_; rintro e w2 ⟨rfl, hx2⟩; have hx12 := hx1.trans hx2; clear z0 z1 z2 z3 z4 z5 z6 z7 y0 y1 y2; obtain ⟨⟨z0, z1, z2, z3, z4, z5, z6, z7⟩, y0, y1, y2⟩ := HB.out _ hx12)
              | (go_at_call 39; refine (HCK2.out _ hx12).mono ?_; rintro e w3 ⟨rfl, hx3⟩; have hx13 := hx12.trans hx3; clear z0 z1 z2 z3 z4 z5 z6 z7 y0 y1 y2; obtain ⟨⟨z0, z1, z2, z3, z4, z5, z6, z7⟩, y0, y1, y2⟩ := HB.out _ hx13)
              | (go_at_call 34; refine (HFT.out _ hx13).mono ?_; rintro e w4 ⟨is, err, rfl, hx4, hq⟩; rw [if_pos HOK.out, HFB.out] at hq; obtain ⟨rfl, rfl⟩ := hq; have hx14 := hx13.trans hx4; clear z0 z1 z2 z3 z4 z5 z6 z7 y0 y1 y2; obtain ⟨⟨z0, z1, z2, z3, z4, z5, z6, z7⟩, y0, y1, y2⟩ := HB.out _ hx14)
              | (go_at_call 13; have _t := tok1; refine (HRR.out _ hx14).mono ?_; rintro e w5 ⟨rfl, hx5⟩; have hx15 := hx14.trans hx5; clear tok1 _t; clear z0 z1 z2 z3 z4 z5 z6 z7 y0 y1 y2; obtain ⟨⟨z0, z1, z2, z3, z4, z5, z6, z7⟩, y0, y1, y2⟩ := HB.out _ hx15)
              | (go_at_call 13; refine (HRR.out _ hx15).mono ?_; rintro e w6 ⟨rfl, hx6⟩; have hx16 := hx15.trans hx6; clear z0 z1 z2 z3 z4 z5 z6 z7 y0 y1 y2; obtain ⟨⟨z0, z1, z2, z3, z4, z5, z6, z7⟩, y0, y1, y2⟩ := HB.out _ hx16)
              | (go_at_call 31; refine (HRT.out _ hx16).mono ?_; rintro e w7 ⟨rfl, hx7⟩; have hx17 := hx16.trans hx7; clear z0 z1 z2 z3 z4 z5 z6 z7 y0 y1 y2; obtain ⟨⟨z0, z1, z2, z3, z4, z5, z6, z7⟩, y0, y1, y2⟩ := HB.out _ hx17)
              | (go_at_call 40; refine (HRF2.out _ hx17).mono ?_; rintro e w8 ⟨rfl, hx8⟩; have hx18 := hx17.trans hx8)
              | (go_at_call 11; refine (HL.out _ hx18).mono ?_; rintro e w9 ⟨rfl, hx9⟩))
            go_ret
            exact ⟨rfl, (HX0.out.trans hx18).trans hx9⟩
end Go.Proofs.YtpheidlocijdkaaGreatDoor
