/- card.Fits where it goes through the houses. -/
import Derived.Test.YtbeophjdiddomaaGreatDoorRuns
namespace Go.Proofs.YtbeophjdiddomaaGreatDoor
open Go.RowKit

theorem fitsB_no {r : Round} {x : Truth} {free : Int} {k : Nat} (hk : k < r.houses.length) (h : okT r x free k = false) : fitsB r x free = false := by
  unfold fitsB; rw [okUp_bad hk h]; simp
theorem six_cells {W : World} {b : Nat} {x0 x1 x2 x3 x4 x5 : Value} {t : TypeId} (h : W.heap[b]? = some (.cells #[x0, x1, x2, x3, x4, x5] t (0, 0))) :
    W.cell? ⟨b, 0, none⟩ = some x0 ∧ W.cell? ⟨b, 1, none⟩ = some x1 ∧ W.cell? ⟨b, 2, none⟩ = some x2 ∧ W.cell? ⟨b, 3, none⟩ = some x3 ∧ W.cell? ⟨b, 4, none⟩ = some x4 ∧ W.cell? ⟨b, 5, none⟩ = some x5 := by
  refine ⟨?_, ?_, ?_, ?_, ?_, ?_⟩ <;> simp [World.cell?, h]
theorem nine_cells {W : World} {b : Nat} {x0 x1 x2 x3 x4 x5 x6 x7 x8 : Value} {t : TypeId} (h : W.heap[b]? = some (.cells #[x0, x1, x2, x3, x4, x5, x6, x7, x8] t (0, 0))) :
    W.cell? ⟨b, 0, none⟩ = some x0 ∧ W.cell? ⟨b, 1, none⟩ = some x1 ∧ W.cell? ⟨b, 2, none⟩ = some x2 ∧ W.cell? ⟨b, 3, none⟩ = some x3 ∧ W.cell? ⟨b, 4, none⟩ = some x4 ∧ W.cell? ⟨b, 5, none⟩ = some x5 ∧ W.cell? ⟨b, 6, none⟩ = some x6 ∧ W.cell? ⟨b, 7, none⟩ = some x7 ∧ W.cell? ⟨b, 8, none⟩ = some x8 := by
  refine ⟨?_, ?_, ?_, ?_, ?_, ?_, ?_, ?_, ?_⟩ <;> simp [World.cell?, h]
abbrev boxH (h : House) : Obj := .cells #[.int .i64 h.out, .int .i64 h.cards, .int .i64 h.full, .int .i64 h.loose, .int .i64 h.miss, .int .i64 h.weighed] 31
abbrev boxB (f l : Int) : Obj := .cells #[.int .i64 f, .int .i64 l] 91
theorem can_lit (r : Round) (hv : Value) (button : Int) (h : House) (full loose : Int) (w : World) (hr : RoundB r) (hw : r.lo ≤ button) (hw' : button ≤ r.hi) (hb : badHouse h = false) (hf : 0 ≤ full) (hf' : full ≤ 60) :
    Calls Tryz.prog 46 #[.agg #[.int .i64 r.per, .int .i64 r.lo, .int .i64 r.hi, .int .i64 r.card, .int .i64 r.slack, hv, .int .i64 r.all, .int .i64 r.off, .int .i64 button], .agg #[.int .i64 h.out, .int .i64 h.cards, .int .i64 h.full, .int .i64 h.loose, .int .i64 h.miss, .int .i64 h.weighed], .agg #[.int .i64 full, .int .i64 loose]] w fun e w' => e = .returned (.bool (canB r button h full loose)) ∧ Ext w w' :=
  can_any r hv button h full loose w hr hw hw' hb hf hf'
theorem counts_lit (h : House) (full loose : Int) (w : World) (hb : badHouse h = false) (hf : 0 ≤ full) (hf' : full ≤ 60) (hl : 0 ≤ loose) (hl' : loose ≤ 36) :
    Calls Tryz.prog 47 #[.agg #[.int .i64 h.out, .int .i64 h.cards, .int .i64 h.full, .int .i64 h.loose, .int .i64 h.miss, .int .i64 h.weighed], .agg #[.int .i64 full, .int .i64 loose]] w fun e w' => e = .returned (.bool (countsB h full loose)) ∧ Ext w w' :=
  counts_any h full loose w hb hf hf' hl hl'
theorem buttons_lit (r : Round) (hv : Value) (button full loose : Int) (w : World) (hp : 0 ≤ r.per) (hp' : r.per ≤ 36) (hf : 0 ≤ full) (hf' : full ≤ 60) (hl : -1000000 ≤ loose) (hl' : loose ≤ 1000000) :
    Calls Tryz.prog 48 #[.agg #[.int .i64 r.per, .int .i64 r.lo, .int .i64 r.hi, .int .i64 r.card, .int .i64 r.slack, hv, .int .i64 r.all, .int .i64 r.off, .int .i64 button], .agg #[.int .i64 full, .int .i64 loose]] w fun e w' => e = .returned (.int .i64 (nOf r full loose)) ∧ Ext w w' :=
  buttons_any r hv button full loose w hp hp' hf hf' hl hl'
abbrev boxW (r : Round) (b : Int) (a : Option Addr) (c : Nat) : Obj := .cells #[.int .i64 r.per, .int .i64 r.lo, .int .i64 r.hi, .int .i64 r.card, .int .i64 r.slack, .slice a r.houses.length c, .int .i64 r.all, .int .i64 r.off, .int .i64 b] 89
set_option maxRecDepth 100000 in
set_option maxHeartbeats 8000000 in
theorem fits_in (v xv : Value) (r : Round) (x : Truth) (w : World) (hr : RoundAt w v r) (hx : TruthAt w xv x) (hb : isRoundB r = true) (ht : truthB r x = true) (hi : inB x.button r.lo r.hi = true) :
    Calls Tryz.prog 15 #[v, xv] w (FitsRes r x w) := by
  obtain ⟨hv, rfl, hh⟩ := hr
  have hr' : RoundAt w (.agg (r.cells hv).toArray) r := ⟨hv, rfl, hh⟩
  obtain ⟨fv, lv, rfl, hf, hl⟩ := hx
  have hB := roundB_of hb
  have HB := Lib.hid hB
  have HR := Lib.hid (fun w1 (hx : Ext w w1) => hb ▸ isRound_any _ r w1 (hr'.ext hx))
  have ht' : (decide (x.full.length = r.houses.length) && decide (x.loose.length = r.houses.length)) = true := ht
  have HT := Lib.hid (fun w1 (hx : Ext w w1) => ht' ▸ isTruth_any _ r x.button fv lv x.full x.loose w1 (hr'.ext hx) (hf.ext hx) (hl.ext hx))
  have HI := Lib.hid (fun w1 => hi ▸ in_any x.button r.lo r.hi w1)
  have hbut := inB_iff.1 hi
  rw [Bool.and_eq_true, decide_eq_true_eq, decide_eq_true_eq] at ht'
  obtain ⟨HLF, HLL⟩ := And.intro (Lib.hid ht'.1) (Lib.hid ht'.2)
  obtain ⟨a, c, rfl, h1, h2, h3⟩ := hh.open
  obtain ⟨fa, fc, rfl, f1, f2, f3⟩ := hf.open
  obtain ⟨la, lc, rfl, l1, l2, l3⟩ := hl.open
  have HH3 := Lib.hid h3
  have HF3 := Lib.hid f3
  have HL3 := Lib.hid l3
  have hn4 := hB.h2
  have p1 := hB.p1
  have p2 := hB.p2
  have a1 := hB.a1
  have a2 := hB.a2
  have o1 := hB.o1
  have o2 := hB.o2
  have b0 := hB.l1
  have b3 := hB.l3
  obtain ⟨b1, b2⟩ := hbut
  unfold Round.cells at *
  have HNO : Hid (∀ k, k < r.houses.length → okT r x (-1) k = false → ∀ w1, Ext w w1 → FitsRes r x w (.returned (.tuple #[.bool false, .int .i64 0])) w1) := fun k hk hno w1 hx => ⟨false, 0, rfl, hx, by rw [if_pos ⟨hb, ht⟩]; exact ⟨rfl, (fitsB_no hk hno).symm⟩⟩
  have HEND : Hid (∀ (b : Bool), b = fitsB r x (-1) → ∀ w1, Ext w w1 → FitsRes r x w (.returned (.tuple #[.bool b, .int .i64 0])) w1) := fun b hb' w1 hx => ⟨b, 0, rfl, hx, by rw [if_pos ⟨hb, ht⟩]; exact ⟨rfl, hb'⟩⟩
  have HFB : Hid (okUp r x (-1) r.houses.length = true → inB (sumT r x r.houses.length - r.all) (-r.off) r.off = fitsB r x (-1)) := fun h => by unfold fitsB; rw [hi, h]; simp
  have hx0 : Ext w ((w.alloc (boxD r a c)).alloc (boxT x fa la fc lc)) := ((Ext.refl w).alloc _).alloc _
  have HBX := Lib.hid (fun W (h : Ext ((w.alloc (boxD r a c)).alloc (boxT x fa la fc lc)) W) => And.intro (round_cells ((h.block (by simp; omega)).trans (two_new w (boxD r a c) (boxT x fa la fc lc)).1)) (show W.heap[w.heap.size + 1]? = some (boxT x fa la fc lc) from (h.block (by simp)).trans (two_new w (boxD r a c) (boxT x fa la fc lc)).2))
  have HY := Lib.hid (fun (W : World) (h : W.heap[w.heap.size + 1]? = some (boxT x fa la fc lc)) => show W.cell? ⟨w.heap.size + 1, 0, none⟩ = some (.int .i64 x.button) ∧ W.cell? ⟨w.heap.size + 1, 1, none⟩ = some (.slice fa x.full.length fc) ∧ W.cell? ⟨w.heap.size + 1, 2, none⟩ = some (.slice la x.loose.length lc) by simp [World.cell?, h])
  have hmix : Tryz.prog.follows .mixedOrders = true := by kernel_rfl
  clear hr' hh hf hl hb ht ht' hi h3 f3 l3 hB
  go_enter Tryz.func15, Tryz.ntmps15
  go_wp2_with (first
    | (go_at_call 39; refine (HR.out _ hx0).mono ?_; rintro e w1 ⟨rfl, hx1⟩; have hx01 := hx0.trans hx1; obtain ⟨⟨z0, z1, z2, z3, z4, z5, z6, z7⟩, hbx⟩ := HBX.out _ hx1; obtain ⟨y0, y1, y2⟩ := HY.out _ hbx; clear hbx)
    | (go_at_call 44; refine (HT.out _ hx01).mono ?_; rintro e w2 ⟨rfl, hx2⟩; have hx02 := hx01.trans hx2; clear z0 z1 z2 z3 z4 z5 z6 z7 y0 y1 y2; have hx12 := hx1.trans hx2; obtain ⟨⟨z0, z1, z2, z3, z4, z5, z6, z7⟩, hbx⟩ := HBX.out _ hx12; obtain ⟨y0, y1, y2⟩ := HY.out _ hbx; clear hbx; have zz5 := ((Ext.refl w2).alloc (boxW r x.button a c)).cell z5)
    | (go_at_call 45; refine (HI.out _).mono ?_; rintro e w' ⟨rfl, rfl⟩))
  have hx3 : Ext w2 (w2.alloc (boxW r x.button a c)) := (Ext.refl w2).alloc _
  have HNW := Lib.hid (fun W (h : Ext (w2.alloc (boxW r x.button a c)) W) => nine_cells ((h.block (by simp)).trans (World.alloc_heap_new w2 (boxW r x.button a c))))
  have hx03 := hx02.trans hx3
  have hx13 := hx12.trans hx3
  have hs0 := hx02.size
  have hs1 := hx12.size
  have hs3 := World.size_alloc w2 (boxW r x.button a c)
  clear z0 z1 z2 z3 z4 z5 z6 z7 y0 y1 y2 zz5
  have HW : Hid (w2.alloc (boxW r x.button a c) = w2.alloc (boxW r x.button a c)) := Lib.hid rfl
  generalize hW : w2.alloc (boxW r x.button a c) = W at *
  go_loopw [7, 37] (fun all i wr => ∃ k : Nat, k ≤ r.houses.length ∧ i = .int .i64 k ∧ all = .int .i64 (sumT r x k) ∧ Hid (okUp r x (-1) k = true) ∧ Ext W wr) (fun _ i _ => r.houses.length - (intOf i).toNat)
  case atStart => exact ⟨0, Nat.zero_le _, rfl, rfl, rfl, Ext.refl _⟩
  case round =>
    obtain ⟨k, hk, rfl, rfl, hup, hxr⟩ := hrel
    obtain ⟨⟨z0, z1, z2, z3, z4, z5, z6, z7⟩, hbx⟩ := HBX.out _ (hx13.trans hxr)
    obtain ⟨y0, y1, y2⟩ := HY.out _ hbx
    obtain ⟨n0, n1, n2, n3, n4, n5, n6, n7, n8⟩ := HNW.out _ hxr
    have hxw := hx03.trans hxr
    clear hbx
    have hsb := sumT_bd HB.out hk hup.out
    by_cases hlt : k < r.houses.length
    · obtain ⟨hb, ho, h, rfl, hhk, c0, c1, c2, c3, c4, c5⟩ := HH3.out k hlt
      obtain ⟨fb, fo, fk, rfl, hfk, g0⟩ := HF3.out k (by rw [HLF.out]; exact hlt)
      obtain ⟨lb, lo, lk, rfl, hlk, g1⟩ := HL3.out k (by rw [HLL.out]; exact hlt)
      have d0 := hxw.cell c0
      have d1 := hxw.cell c1
      have d2 := hxw.cell c2
      have d3 := hxw.cell c3
      have d4 := hxw.cell c4
      have d5 := hxw.cell c5
      have e0 := hxw.cell g0
      have e1 := hxw.cell g1
      have hfb := lt_of_cell g0
      have hlb := lt_of_cell g1
      clear c0 c1 c2 c3 c4 c5 g0 g1
      have hbad := HB.out.hs h (List.mem_of_getElem? hhk.out)
      have HBAD := Lib.hid hbad
      have hb6 := badHouse_iff.1 hbad
      have hgh : r.houses.getD k noHouse = h := by rw [List.getD_eq_getElem?_getD, hhk.out]; rfl
      have hgf : x.full.getD k 0 = fk := by rw [List.getD_eq_getElem?_getD, hfk.out]; rfl
      have hgl : x.loose.getD k 0 = lk := by rw [List.getD_eq_getElem?_getD, hlk.out]; rfl
      have hok : okT r x (-1) k = (canB r x.button h fk lk && countsB h fk lk) := by
        unfold okT
        rw [hgh, hgf, hgl]
        have hm : decide ((k : Int) = -1) = false := by simp
        rw [hm, Bool.false_or]
      have HOK := Lib.hid hok
      have hsm : sumT r x (k + 1) = sumT r x k + nOf r fk lk := by rw [← hgf, ← hgl]; rfl
      have HSM := Lib.hid hsm
      have HUP := Lib.hid (okUp_succ r x (-1) k)
      have x2 : decide ((k : Int) < (r.houses.length : Int)) = true := by simpa using hlt
      have x3 : k < x.full.length := by rw [HLF.out]; exact hlt
      have x4 : (k : Int) < (x.full.length : Int) := by omega
      have x5 : k < x.loose.length := by rw [HLL.out]; exact hlt
      have x6 : (k : Int) < (x.loose.length : Int) := by omega
      have x7 : (0 : Int) ≤ (k : Int) := by omega
      clear hbad hgh hgf hgl hok hsm
      have hxh : Ext wr (wr.alloc (boxH h)) := (Ext.refl wr).alloc _
      have HH6 := Lib.hid (fun W1 (hh : Ext (wr.alloc (boxH h)) W1) => six_cells ((hh.block (by simp)).trans (World.alloc_heap_new wr (boxH h))))
      have HS10 : Hid (∀ W1, Ext (wr.alloc (boxH h)) W1 → W1.cell? ⟨w.heap.size + 1, 1, none⟩ = some (.slice (some ⟨fb, fo, none⟩) x.full.length fc) ∧ W1.cell? ⟨w.heap.size + 1, 2, none⟩ = some (.slice (some ⟨lb, lo, none⟩) x.loose.length lc) ∧ W1.cell? ⟨fb, fo + k, none⟩ = some (.int .i64 fk) ∧ W1.cell? ⟨lb, lo + k, none⟩ = some (.int .i64 lk)) := fun W1 h1 => ⟨(hxh.trans h1).cell y1, (hxh.trans h1).cell y2, (hxh.trans h1).cell e0, (hxh.trans h1).cell e1⟩
      go_upto_region 10 with fail
      go_region_held3 (fun w' => w'.cell? ⟨w.heap.size + 1, 1, none⟩ = some (.slice (some ⟨fb, fo, none⟩) x.full.length fc) ∧ w'.cell? ⟨w.heap.size + 1, 2, none⟩ = some (.slice (some ⟨lb, lo, none⟩) x.loose.length lc) ∧ w'.cell? ⟨fb, fo + k, none⟩ = some (.int .i64 fk) ∧ w'.cell? ⟨lb, lo + k, none⟩ = some (.int .i64 lk))
        (first | go_keep | exact HS10.out _ (by repeat (first | exact Ext.refl _ | apply Ext.drew | apply Ext.alloc | refine Ext.setCell ?_ (by simp) _)))
        (first | fail)
      have hxA : Ext wr (((wr.alloc (boxH h)).alloc (boxB fk lk)).drew) := (((Ext.refl wr).alloc _).alloc _).drew
      have HHA := Lib.hid (fun W1 (hh : Ext (((wr.alloc (boxH h)).alloc (boxB fk lk)).drew) W1) => HH6.out W1 ((((Ext.refl _).alloc _).drew).trans hh))
      have HBA := Lib.hid (fun W1 (hh : Ext (((wr.alloc (boxH h)).alloc (boxB fk lk)).drew) W1) => (box2 (show W1.heap[wr.heap.size + 1]? = some (boxB fk lk) from (hh.block (by simp)).trans (two_new wr (boxH h) (boxB fk lk)).2) (.int .i64 0)).1)
      clear n0 n1 n2 n3 n4 n5 n6 n7 n8 HH6 z0 z1 z2 z3 z4 z5 z6 z7 y0 y1 y2
      have HWA : Hid ((((wr.alloc (boxH h)).alloc (boxB fk lk)).drew) = (((wr.alloc (boxH h)).alloc (boxB fk lk)).drew)) := Lib.hid rfl
      generalize hwa : (((wr.alloc (boxH h)).alloc (boxB fk lk)).drew) = wa at *
      obtain ⟨q0, q1, q2, q3, q4, q5⟩ := HHA.out wa (Ext.refl _)
      obtain ⟨r0, r1⟩ := HBA.out wa (Ext.refl _)
      obtain ⟨n0, n1, n2, n3, n4, n5, n6, n7, n8⟩ := HNW.out _ (hxr.trans hxA)
      obtain ⟨⟨i1, i2⟩, ⟨i3, i4⟩, ⟨i5, i6⟩, ⟨i7, i8⟩, ⟨i9, i10⟩, ⟨i11, i12⟩⟩ := hb6
      clear d0 d1 d2 d3 d4 d5 e0 e1 hwa
      cases hc : inB fk 0 h.cards with
      | false =>
        have HNB : Hid (okT r x (-1) k = false) := by unfold Hid; rw [HOK.out]; unfold canB; rw [hc]; rfl
        have HI1 := Lib.hid (fun w1 => hc ▸ in_any fk 0 h.cards w1)
        clear hc
        go_wp2_with (go_at_call 45; refine (HI1.out _).mono ?_; rintro e w' ⟨rfl, rfl⟩)
        go_ret2
        exact HNO.out k hlt HNB.out _ (hxw.trans hxA)
      | true =>
        have HI1 := Lib.hid (fun w1 => hc ▸ in_any fk 0 h.cards w1)
        obtain ⟨j1, j2⟩ := inB_iff.1 hc
        clear hc
        have HCAN := Lib.hid (fun w1 => can_lit r (.slice (some ⟨hb, ho, none⟩) r.houses.length c) x.button h fk lk w1 HB.out b1 b2 HBAD.out j1 (by omega))
        cases hcan : canB r x.button h fk lk with
        | false =>
          have HNB : Hid (okT r x (-1) k = false) := by unfold Hid; rw [HOK.out, hcan]; rfl
          rw [hcan] at HCAN
          clear hcan
          go_wp2_with (first
            | (go_at_call 45; refine (HI1.out _).mono ?_; rintro e w' ⟨rfl, rfl⟩)
            | (go_at_call 46; refine (HCAN.out _).mono ?_; rintro e w3 ⟨rfl, hx3'⟩))
          go_ret2
          exact HNO.out k hlt HNB.out _ ((hxw.trans hxA).trans hx3')
        | true =>
          rw [hcan] at HCAN
          have hlb : 0 ≤ lk ∧ lk ≤ r.per - 1 := by
            unfold canB at hcan
            simp only [Bool.and_eq_true, inB_iff] at hcan
            exact hcan.1.1.2
          obtain ⟨j3, j4⟩ := hlb
          have HCNT := Lib.hid (fun w1 => counts_lit h fk lk w1 HBAD.out j1 (by omega) j3 (by omega))
          cases hcnt : countsB h fk lk with
          | false =>
            have HNB : Hid (okT r x (-1) k = false) := by unfold Hid; rw [HOK.out, hcan, hcnt]; rfl
            rw [hcnt] at HCNT
            clear hcan hcnt
            go_wp2_with (first
              | (go_at_call 45; refine (HI1.out _).mono ?_; rintro e w' ⟨rfl, rfl⟩)
              | (go_at_call 46; refine (HCAN.out _).mono ?_; rintro e w3 ⟨rfl, hx3'⟩; clear q0 q1 q2 q3 q4 q5 r0 r1 n0 n1 n2 n3 n4 n5 n6 n7 n8; obtain ⟨q0, q1, q2, q3, q4, q5⟩ := HHA.out w3 hx3'; obtain ⟨r0, r1⟩ := HBA.out w3 hx3')
              | (go_at_call 47; refine (HCNT.out _).mono ?_; rintro e w4 ⟨rfl, hx4'⟩))
            go_ret2
            exact HNO.out k hlt HNB.out _ ((hxw.trans hxA).trans (hx3'.trans hx4'))
          | true =>
            have HUP2 : Hid (okUp r x (-1) (k + 1) = true) := by unfold Hid; rw [HUP.out, hup.out, HOK.out, hcan, hcnt]; rfl
            rw [hcnt] at HCNT
            clear hcan hcnt
            have HBT := Lib.hid (fun w1 => buttons_lit r (.slice (some ⟨hb, ho, none⟩) r.houses.length c) x.button fk lk w1 (by omega) p2 j1 (by omega) (by omega) (by omega))
            have hsb2 := sumT_bd HB.out (k := k + 1) hlt HUP2.out
            rw [HSM.out] at hsb2
            obtain ⟨m1, m2⟩ := hsb2
            obtain ⟨m3, m4⟩ := hsb
            generalize hnn : nOf r fk lk = nn at *
            generalize hss : sumT r x k = ss at *
            clear hnn hss
            go_wp2_with (first
              | (go_at_call 45; refine (HI1.out _).mono ?_; rintro e w' ⟨rfl, rfl⟩)
              | (go_at_call 46; refine (HCAN.out _).mono ?_; rintro e w3 ⟨rfl, hx3'⟩; clear q0 q1 q2 q3 q4 q5 r0 r1 n0 n1 n2 n3 n4 n5 n6 n7 n8; obtain ⟨q0, q1, q2, q3, q4, q5⟩ := HHA.out w3 hx3'; obtain ⟨r0, r1⟩ := HBA.out w3 hx3')
              | (go_at_call 47; refine (HCNT.out _).mono ?_; rintro e w4 ⟨rfl, hx4'⟩; have hx34 := hx3'.trans hx4'; clear q0 q1 q2 q3 q4 q5 r0 r1; obtain ⟨r0, r1⟩ := HBA.out w4 hx34; obtain ⟨n0, n1, n2, n3, n4, n5, n6, n7, n8⟩ := HNW.out _ ((hxr.trans hxA).trans hx34))
              | (go_at_call 48; refine (HBT.out _).mono ?_; rintro e w5 ⟨rfl, hx5'⟩))
            go_roundw
            case rel => exact ⟨k + 1, by omega, by go_num, by rw [HSM.out], HUP2.out, hxr.trans (hxA.trans (hx34.trans hx5'))⟩
            case measure => simp [intOf]; omega
    · have hke : k = r.houses.length := by omega
      subst hke
      have x2 : decide ((r.houses.length : Int) < (r.houses.length : Int)) = false := by simp
      obtain ⟨m3, m4⟩ := hsb
      have HNR := Lib.hid (fun w1 => near_any (sumT r x r.houses.length) r.all r.off w1 (by omega) (by omega) (by omega) (by omega) (by omega) (by omega))
      have HFE := Lib.hid (HFB.out hup.out)
      go_wp2_with (go_at_call 49; refine (HNR.out _).mono ?_; rintro e w' ⟨rfl, rfl⟩)
      go_ret2
      exact HEND.out _ HFE.out _ hxw
theorem fits_any (v xv : Value) (r : Round) (x : Truth) (w : World) (hr : RoundAt w v r) (hx : TruthAt w xv x) : Calls Tryz.prog 15 #[v, xv] w (FitsRes r x w) := by
  by_cases h : isRoundB r = true ∧ truthB r x = true
  · cases hi : inB x.button r.lo r.hi with
    | false => exact fits_out v xv r x w hr hx h.1 h.2 hi
    | true => exact fits_in v xv r x w hr hx h.1 h.2 hi
  · exact fits_bad v xv r x w hr hx h
end Go.Proofs.YtbeophjdiddomaaGreatDoor
