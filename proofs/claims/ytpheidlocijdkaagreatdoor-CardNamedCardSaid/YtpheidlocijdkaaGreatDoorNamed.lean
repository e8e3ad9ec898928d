/- The law CardNamed: the walk. -/
import Derived.Test.YtpheidlocijdkaaGreatDoorNamedb
import Derived.Test.YtpheidlocijdkaaGreatDoorNamede
namespace Go.Proofs.YtpheidlocijdkaaGreatDoor
open Go.RowKit

set_option maxRecDepth 100000 in
set_option maxHeartbeats 16000000 in
theorem named_late (v : Value) (r : Round) (xv : Value) (x : Truth) (k : Nat) (w : World) (hr : RoundAt w v r) (hx : TruthAt w xv x) (ht : TabOk w)
    (hs : slimB r = true) (hbr : briefB x = true) (hb : isRoundB r = true) (htr : truthB r x = true) (hlt : k < r.houses.length) (hin : inB (k : Int) 0 (r.houses.length - 1) = true) : Calls Tryz.prog 6 #[v, xv, .int .i64 k] w (TrueP w) := by
  obtain ⟨hv, rfl, hh⟩ := hr
  have hr' : RoundAt w (.agg (r.cells hv).toArray) r := ⟨hv, rfl, hh⟩
  have hx' := hx
  obtain ⟨fv, lv, rfl, hf, hl⟩ := hx
  obtain ⟨a, c, rfl, h1, h2, h3⟩ := hh.open
  obtain ⟨fa, fc, rfl, f1, f2, f3⟩ := hf.open
  obtain ⟨la, lc, rfl, l1, l2, l3⟩ := hl.open
  have hx0 : Ext w ((w.alloc (boxD r a c)).alloc (boxT x fa la fc lc)) := ((Ext.refl w).alloc _).alloc _
  have HX0 := Lib.hid hx0
  have HSL := Lib.hid (fun w1 (hx : Ext ((w.alloc (boxD r a c)).alloc (boxT x fa la fc lc)) w1) => slim_any _ r w1 (hr'.ext (hx0.trans hx)))
  have HBF := Lib.hid (fun w1 (hx : Ext ((w.alloc (boxD r a c)).alloc (boxT x fa la fc lc)) w1) => brief_any _ x w1 (hx'.ext (hx0.trans hx)))
  have HRR := Lib.hid (fun w1 (hx : Ext ((w.alloc (boxD r a c)).alloc (boxT x fa la fc lc)) w1) => rround_any _ r w1 (hr'.ext (hx0.trans hx)))
  have HRT := Lib.hid (fun w1 (hx : Ext ((w.alloc (boxD r a c)).alloc (boxT x fa la fc lc)) w1) => rtruth_any _ _ r x w1 (hr'.ext (hx0.trans hx)) (hx'.ext (hx0.trans hx)))
  have HNB := Lib.hid (fun w1 (hx : Ext ((w.alloc (boxD r a c)).alloc (boxT x fa la fc lc)) w1) => rnumber_any _ r (k : Int) w1 (hr'.ext (hx0.trans hx)))
  have HBG := Lib.hid (fun (hn : r.houses.length ≤ 4) i h full loose w1 (hx : Ext ((w.alloc (boxD r a c)).alloc (boxT x fa la fc lc)) w1) (hi : r.houses[i]? = some h) => bought_any _ r i h full loose w1 (hr'.ext (hx0.trans hx)) hi hn)
  have HL := Lib.hid (fun w1 (hx : Ext ((w.alloc (boxD r a c)).alloc (boxT x fa la fc lc)) w1) => lknown_any w1 (ht.ext (hx0.trans hx)))
  have HB := Lib.hid (fun W (h : Ext ((w.alloc (boxD r a c)).alloc (boxT x fa la fc lc)) W) => And.intro (round_cells ((h.block (by simp; omega)).trans (two_new w (boxD r a c) (boxT x fa la fc lc)).1)) (show W.cell? ⟨w.heap.size + 1, 0, none⟩ = some (.int .i64 x.button) ∧ W.cell? ⟨w.heap.size + 1, 1, none⟩ = some (.slice fa x.full.length fc) ∧ W.cell? ⟨w.heap.size + 1, 2, none⟩ = some (.slice la x.loose.length lc) by
    have hb := (h.block (b := w.heap.size + 1) (by simp)).trans (two_new w (boxD r a c) (boxT x fa la fc lc)).2
    simp [World.cell?, hb]))
  have HS : Hid (∀ W1, Ext ((w.alloc (boxD r a c)).alloc (boxT x fa la fc lc)) W1 → W1.cell? ⟨w.heap.size, 0, none⟩ = some (.int .i64 r.per) ∧ W1.cell? ⟨w.heap.size, 1, none⟩ = some (.int .i64 r.lo) ∧ W1.cell? ⟨w.heap.size, 2, none⟩ = some (.int .i64 r.hi) ∧ W1.cell? ⟨w.heap.size, 3, none⟩ = some (.int .i64 r.card) ∧ W1.cell? ⟨w.heap.size, 4, none⟩ = some (.int .i64 r.slack) ∧ W1.cell? ⟨w.heap.size, 5, none⟩ = some (.slice a r.houses.length c) ∧ W1.cell? ⟨w.heap.size, 6, none⟩ = some (.int .i64 r.all) ∧ W1.cell? ⟨w.heap.size, 7, none⟩ = some (.int .i64 r.off) ∧ W1.cell? ⟨w.heap.size + 1, 0, none⟩ = some (.int .i64 x.button) ∧ W1.cell? ⟨w.heap.size + 1, 1, none⟩ = some (.slice fa x.full.length fc) ∧ W1.cell? ⟨w.heap.size + 1, 2, none⟩ = some (.slice la x.loose.length lc)) := fun W1 h1 => by
    obtain ⟨⟨z0, z1, z2, z3, z4, z5, z6, z7⟩, y0, y1, y2⟩ := HB.out W1 h1
    exact ⟨z0, z1, z2, z3, z4, z5, z6, z7, y0, y1, y2⟩
  have hmix : Tryz.prog.follows .mixedOrders = true := by kernel_rfl
  unfold Round.cells at *
  have HFT := Lib.hid (fun w1 (hx : Ext ((w.alloc (boxD r a c)).alloc (boxT x fa la fc lc)) w1) v1 r1 (hr1 : RoundAt w1 v1 r1) => fits_any v1 _ r1 x w1 hr1 (hx'.ext (hx0.trans hx)))
  have HAG0 := Lib.hid (fun w1 (hx : Ext ((w.alloc (boxD r a c)).alloc (boxT x fa la fc lc)) w1) => agree_any _ r w1 (hr'.ext (hx0.trans hx)))
  have HWR0 := Lib.hid (fun w1 (hx : Ext ((w.alloc (boxD r a c)).alloc (boxT x fa la fc lc)) w1) => wrong_any _ r w1 (hr'.ext (hx0.trans hx)))
  have HME0 := Lib.hid (fun w1 (hx : Ext ((w.alloc (boxD r a c)).alloc (boxT x fa la fc lc)) w1) => mends_any _ r (k : Int) w1 (hr'.ext (hx0.trans hx)))
  unfold Round.cells at HFT HAG0 HWR0 HME0
  have HV := Lib.hid (fun w1 (hx : Ext ((w.alloc (boxD r a c)).alloc (boxT x fa la fc lc)) w1) => RowAt.ext (show RowAt w (.slice a r.houses.length c) r.houses.length (r.houses.flatMap House.cells) from hh) (hx0.trans hx))
  have htr' := htr
  unfold truthB at htr'
  rw [Bool.and_eq_true, decide_eq_true_eq, decide_eq_true_eq] at htr'
  have hB := roundB_of hb
  have HRB := Lib.hid hB
  have hn4 := hB.h2
  have p1 := hB.p1
  have p2 := hB.p2
  obtain ⟨fb, fo, fk, rfl, hfk, g0⟩ := f3 k (by rw [htr'.1]; exact hlt)
  obtain ⟨lb, lo, lk, rfl, hlk, g1⟩ := l3 k (by rw [htr'.2]; exact hlt)
  have hgf : x.full.getD k 0 = fk := by rw [List.getD_eq_getElem?_getD, hfk.out]; rfl
  have hgl : x.loose.getD k 0 = lk := by rw [List.getD_eq_getElem?_getD, hlk.out]; rfl
  have hhk : r.houses[k]? = some r.houses[k] := List.getElem?_eq_getElem hlt
  obtain ⟨h, hhe⟩ : ∃ h, r.houses[k] = h := ⟨_, rfl⟩
  rw [hhe] at hhk
  have hgh : r.houses.getD k noHouse = h := by rw [List.getD_eq_getElem?_getD, hhk]; rfl
  have HSK : Hid (∀ W1, Ext ((w.alloc (boxD r a c)).alloc (boxT x (some ⟨fb, fo, none⟩) (some ⟨lb, lo, none⟩) fc lc)) W1 → W1.cell? ⟨w.heap.size, 0, none⟩ = some (.int .i64 r.per) ∧ W1.cell? ⟨w.heap.size, 1, none⟩ = some (.int .i64 r.lo) ∧ W1.cell? ⟨w.heap.size, 2, none⟩ = some (.int .i64 r.hi) ∧ W1.cell? ⟨w.heap.size, 3, none⟩ = some (.int .i64 r.card) ∧ W1.cell? ⟨w.heap.size, 4, none⟩ = some (.int .i64 r.slack) ∧ W1.cell? ⟨w.heap.size, 5, none⟩ = some (.slice a r.houses.length c) ∧ W1.cell? ⟨w.heap.size, 6, none⟩ = some (.int .i64 r.all) ∧ W1.cell? ⟨w.heap.size, 7, none⟩ = some (.int .i64 r.off) ∧ W1.cell? ⟨w.heap.size + 1, 0, none⟩ = some (.int .i64 x.button) ∧ W1.cell? ⟨w.heap.size + 1, 1, none⟩ = some (.slice (some ⟨fb, fo, none⟩) x.full.length fc) ∧ W1.cell? ⟨w.heap.size + 1, 2, none⟩ = some (.slice (some ⟨lb, lo, none⟩) x.loose.length lc) ∧ W1.cell? ⟨fb, fo + k, none⟩ = some (.int .i64 fk) ∧ W1.cell? ⟨lb, lo + k, none⟩ = some (.int .i64 lk)) := fun W1 h1 => by
    obtain ⟨⟨z0, z1, z2, z3, z4, z5, z6, z7⟩, y0, y1, y2⟩ := HB.out W1 h1
    exact ⟨z0, z1, z2, z3, z4, z5, z6, z7, y0, y1, y2, (hx0.trans h1).cell g0, (hx0.trans h1).cell g1⟩
  have HBGK := Lib.hid (fun w1 hx => HBG.out hn4 k h fk lk w1 hx hhk)
  have x3 : k < x.full.length := by rw [htr'.1]; exact hlt
  have x4 : (k : Int) < (x.full.length : Int) := by omega
  have x5 : k < x.loose.length := by rw [htr'.2]; exact hlt
  have x6 : (k : Int) < (x.loose.length : Int) := by omega
  have x7 : (0 : Int) ≤ (k : Int) := by omega
  have x8 : (k : Int) < (r.houses.length : Int) := by omega
  rw [hs] at HSL
  rw [hbr] at HBF
  rw [hb] at HRR
  rw [htr] at HRT
  rw [hin] at HNB
  clear hr' hx' hh hx0 ht hf hl h3 f3 l3 HBG hs hbr htr' HS g0 g1 hhe
  cases hbg : boughtB r h fk lk with
  | false =>
    rw [hbg] at HBGK
    clear hbg hb htr hin hhk hgh hgf hgl HV HFT HAG0 HWR0 HME0 hB
    go_enter Tryz.func6, Tryz.ntmps6
    go_upto_region 1 with fail
    have hk0 := HSK.out _ ((Ext.refl ((w.alloc (boxD r a c)).alloc (boxT x (some ⟨fb, fo, none⟩) (some ⟨lb, lo, none⟩) fc lc))).drew)
    go_region_held3 (fun w' => w'.cell? ⟨w.heap.size, 0, none⟩ = some (.int .i64 r.per) ∧ w'.cell? ⟨w.heap.size, 1, none⟩ = some (.int .i64 r.lo) ∧ w'.cell? ⟨w.heap.size, 2, none⟩ = some (.int .i64 r.hi) ∧ w'.cell? ⟨w.heap.size, 3, none⟩ = some (.int .i64 r.card) ∧ w'.cell? ⟨w.heap.size, 4, none⟩ = some (.int .i64 r.slack) ∧ w'.cell? ⟨w.heap.size, 5, none⟩ = some (.slice a r.houses.length c) ∧ w'.cell? ⟨w.heap.size, 6, none⟩ = some (.int .i64 r.all) ∧ w'.cell? ⟨w.heap.size, 7, none⟩ = some (.int .i64 r.off) ∧ w'.cell? ⟨w.heap.size + 1, 0, none⟩ = some (.int .i64 x.button) ∧ w'.cell? ⟨w.heap.size + 1, 1, none⟩ = some (.slice (some ⟨fb, fo, none⟩) x.full.length fc) ∧ w'.cell? ⟨w.heap.size + 1, 2, none⟩ = some (.slice (some ⟨lb, lo, none⟩) x.loose.length lc) ∧ w'.cell? ⟨fb, fo + k, none⟩ = some (.int .i64 fk) ∧ w'.cell? ⟨lb, lo + k, none⟩ = some (.int .i64 lk))
      (first | exact hk0 | go_keep | exact HSK.out _ (by first | exact hy6 | exact hy5 | exact hy4 | exact hy3 | exact hy2 | exact hy1 | exact (Ext.refl _).drew))
      (first
        | (go_at_call 10; refine (HSL.out _ (Ext.refl _).drew).mono ?_; rintro e w1 ⟨rfl, hx1⟩; have hy1 := Ext.trans ((Ext.refl ((w.alloc (boxD r a c)).alloc (boxT x (some ⟨fb, fo, none⟩) (some ⟨lb, lo, none⟩) fc lc))).drew) hx1)
        | (go_at_call 30; refine (HBF.out _ hy1).mono ?_; rintro e w2 ⟨rfl, hx2⟩; have hy2 := Ext.trans (hy1) hx2)
        | (go_at_call 13; refine (HRR.out _ hy2).mono ?_; rintro e w3 ⟨rfl, hx3⟩; have hy3 := Ext.trans (hy2) hx3)
        | (go_at_call 31; refine (HRT.out _ hy3).mono ?_; rintro e w4 ⟨rfl, hx4⟩; have hy4 := Ext.trans (hy3) hx4)
        | (go_at_call 32; refine (HNB.out _ hy4).mono ?_; rintro e w5 ⟨rfl, hx5⟩; have hy5 := Ext.trans (hy4) hx5)
        | (go_at_call 33; refine (HBGK.out _ hy5).mono ?_; rintro e w6 ⟨rfl, hx6⟩; have hy6 := Ext.trans (hy5) hx6))
    go_wp2_with (go_at_call 11; refine (HL.out _ hy6).mono ?_; rintro e wk ⟨rfl, hxk⟩)
    go_ret
    exact ⟨rfl, (HX0.out.trans hy6).trans hxk⟩
  | true =>
    rw [hbg] at HBGK
    have hrr := right_round hb hhk (x := x) (by rw [hgf, hgl]; exact hbg)
    have htt : truthB (rightR r x k) x = true := by rw [right_truth]; exact htr
    have HRG : Hid (isRoundB (rightR r x k) = true ∧ truthB (rightR r x k) x = true) := ⟨hrr, htt⟩
    have HSF := Lib.hid (set_flat r.houses k h fk lk hhk)
    have HRE : Hid (rightR r x k = { r with houses := r.houses.set k { h with full := fk, loose := lk } }) := by unfold Hid rightR; rw [hgh, hgf, hgl]
    unfold boughtB at hbg
    simp only [Bool.and_eq_true, decide_eq_true_eq] at hbg
    obtain ⟨⟨⟨j1, j2⟩, j3⟩, j4⟩ := hbg
    have hcd := (badHouse_iff.1 (hB.hs h (List.mem_of_getElem? hhk))).2.1
    have m5 : 0 ≤ fk * r.per := Int.mul_nonneg j1 (by omega)
    have m6 : fk * r.per ≤ 2160 := by
      have := Int.mul_le_mul (show fk ≤ 60 by omega) p2 (by omega) (by omega : (0:Int) ≤ 60)
      omega
    have hn3 : nOf r fk lk = fk * r.per + lk := by unfold nOf; rw [Int.mul_comm]
    have HNO := Lib.hid hn3
    have HGF := Lib.hid hgf
    have HGL := Lib.hid hgl
    have HBR := Lib.hid hb
    have HIN := Lib.hid hin
    have hsz : 0 + r.houses.length ≤ maxLen ∧ (0 + r.houses.length) * 48 ≤ 140737488355328 := by unfold maxLen; omega
    have HSZ := Lib.hid hsz
    have x9 : k * 6 + 3 < r.houses.length * 6 := by omega
    have HHK := Lib.hid hhk
    have HLT := Lib.hid hlt
    clear hrr htt hb htr hin hhk hgh hgf hgl hn3 hB hsz hcd
    go_enter Tryz.func6, Tryz.ntmps6
    go_upto_region 1 with fail
    have hk0 := HSK.out _ ((Ext.refl ((w.alloc (boxD r a c)).alloc (boxT x (some ⟨fb, fo, none⟩) (some ⟨lb, lo, none⟩) fc lc))).drew)
    go_region_held3 (fun w' => w'.cell? ⟨w.heap.size, 0, none⟩ = some (.int .i64 r.per) ∧ w'.cell? ⟨w.heap.size, 1, none⟩ = some (.int .i64 r.lo) ∧ w'.cell? ⟨w.heap.size, 2, none⟩ = some (.int .i64 r.hi) ∧ w'.cell? ⟨w.heap.size, 3, none⟩ = some (.int .i64 r.card) ∧ w'.cell? ⟨w.heap.size, 4, none⟩ = some (.int .i64 r.slack) ∧ w'.cell? ⟨w.heap.size, 5, none⟩ = some (.slice a r.houses.length c) ∧ w'.cell? ⟨w.heap.size, 6, none⟩ = some (.int .i64 r.all) ∧ w'.cell? ⟨w.heap.size, 7, none⟩ = some (.int .i64 r.off) ∧ w'.cell? ⟨w.heap.size + 1, 0, none⟩ = some (.int .i64 x.button) ∧ w'.cell? ⟨w.heap.size + 1, 1, none⟩ = some (.slice (some ⟨fb, fo, none⟩) x.full.length fc) ∧ w'.cell? ⟨w.heap.size + 1, 2, none⟩ = some (.slice (some ⟨lb, lo, none⟩) x.loose.length lc) ∧ w'.cell? ⟨fb, fo + k, none⟩ = some (.int .i64 fk) ∧ w'.cell? ⟨lb, lo + k, none⟩ = some (.int .i64 lk))
      (first | exact hk0 | go_keep | exact HSK.out _ (by first | exact hy6 | exact hy5 | exact hy4 | exact hy3 | exact hy2 | exact hy1 | exact (Ext.refl _).drew))
      (first
        | (go_at_call 10; refine (HSL.out _ (Ext.refl _).drew).mono ?_; rintro e w1 ⟨rfl, hx1⟩; have hy1 := Ext.trans ((Ext.refl ((w.alloc (boxD r a c)).alloc (boxT x (some ⟨fb, fo, none⟩) (some ⟨lb, lo, none⟩) fc lc))).drew) hx1)
        | (go_at_call 30; refine (HBF.out _ hy1).mono ?_; rintro e w2 ⟨rfl, hx2⟩; have hy2 := Ext.trans (hy1) hx2)
        | (go_at_call 13; refine (HRR.out _ hy2).mono ?_; rintro e w3 ⟨rfl, hx3⟩; have hy3 := Ext.trans (hy2) hx3)
        | (go_at_call 31; refine (HRT.out _ hy3).mono ?_; rintro e w4 ⟨rfl, hx4⟩; have hy4 := Ext.trans (hy3) hx4)
        | (go_at_call 32; refine (HNB.out _ hy4).mono ?_; rintro e w5 ⟨rfl, hx5⟩; have hy5 := Ext.trans (hy4) hx5)
        | (go_at_call 33; refine (HBGK.out _ hy5).mono ?_; rintro e w6 ⟨rfl, hx6⟩; have hy6 := Ext.trans (hy5) hx6))
    obtain ⟨z0, z1, z2, z3, z4, z5, z6, z7, y0, y1, y2, e0, e1⟩ := HSK.out w6 hy6
    have hxr := (Ext.refl w6).alloc (boxD r a c)
    have zz5 := hxr.cell z5
    have hy7 := hy6.trans hxr
    have hs6 := hy6.size
    have HRB8 := Lib.hid (fun W (h : Ext (w6.alloc (boxD r a c)) W) => And.intro (round_cells ((h.block (by simp)).trans (World.alloc_heap_new w6 (boxD r a c)))) (show W.heap[w6.heap.size]? = some (boxD r a c) from (h.block (by simp)).trans (World.alloc_heap_new w6 (boxD r a c))))
    go_upto_region 5 with (at_builtin; refine wpList_append_row E_houses rfl _ _ rfl (w6.alloc (boxD r a c)).heap.size rfl (World.ownsRow_nil _ _ _ _) rfl (HV.out _ hy7) (houses_len _) (houses_one _) ?_ HSZ.out.1 HSZ.out.2 (Nat.le_refl _); intro v8 w8 hown8 hgr8 _; have hx8 : Ext (w6.alloc (boxD r a c)) w8 := (Ext.refl _).grown hgr8 (fun g hg => by cases hg); rw [Nat.zero_add, List.nil_append] at hown8; have hform : ∃ g cap, v8 = .slice (some ⟨g, 0, none⟩) r.houses.length cap := (by obtain ⟨m, hm⟩ : ∃ m, r.houses.length = m + 1 := ⟨r.houses.length - 1, by omega⟩; rw [hm] at hown8 ⊢; exact owns_succ hown8); obtain ⟨g, cap, hv8⟩ := hform; subst hv8; obtain ⟨⟨b0, b1, b2, b3, b4, b5, b6, b7⟩, hblk⟩ := HRB8.out _ hx8; have bf : w8.frozen? ⟨w6.heap.size, 5, none⟩ = false := (by unfold World.frozen?; rw [hblk]; rfl); have HOWN8 := Lib.hid hown8; have HX8 := Lib.hid hx8; clear hown8 hgr8 hblk)
    have hl1 := lt_of_cell y1
    have hl2 := lt_of_cell e0
    have hl3 := lt_of_cell e1
    simp only at hl1 hl2 hl3
    have hg8 := (World.ownsRow.lt HOWN8.out g rfl).1
    rw [World.size_alloc] at hg8
    have HYB : Hid (Ext ((w.alloc (boxD r a c)).alloc (boxT x (some ⟨fb, fo, none⟩) (some ⟨lb, lo, none⟩) fc lc)) (w8.setCell ⟨w6.heap.size, 5, none⟩ (.slice (some ⟨g, 0, none⟩) r.houses.length cap))) := (hy7.trans HX8.out).setCell hs6 _
    have HOB := Lib.hid (ownsRow_setCell_other HOWN8.out (a := ⟨w6.heap.size, 5, none⟩) (by simp [Value.ownBlock]; omega) (.slice (some ⟨g, 0, none⟩) r.houses.length cap))
    have HRC : Hid (∀ W1 : World, (∀ o, W1.cell? ⟨w6.heap.size, o, none⟩ = (w8.setCell ⟨w6.heap.size, 5, none⟩ (.slice (some ⟨g, 0, none⟩) r.houses.length cap)).cell? ⟨w6.heap.size, o, none⟩) → W1.cell? ⟨w6.heap.size, 0, none⟩ = some (.int .i64 r.per) ∧ W1.cell? ⟨w6.heap.size, 1, none⟩ = some (.int .i64 r.lo) ∧ W1.cell? ⟨w6.heap.size, 2, none⟩ = some (.int .i64 r.hi) ∧ W1.cell? ⟨w6.heap.size, 3, none⟩ = some (.int .i64 r.card) ∧ W1.cell? ⟨w6.heap.size, 4, none⟩ = some (.int .i64 r.slack) ∧ W1.cell? ⟨w6.heap.size, 5, none⟩ = some (.slice (some ⟨g, 0, none⟩) r.houses.length cap) ∧ W1.cell? ⟨w6.heap.size, 6, none⟩ = some (.int .i64 r.all) ∧ W1.cell? ⟨w6.heap.size, 7, none⟩ = some (.int .i64 r.off)) := fun W1 h1 => by
      refine ⟨(h1 0).trans ?_, (h1 1).trans ?_, (h1 2).trans ?_, (h1 3).trans ?_, (h1 4).trans ?_, (h1 5).trans ?_, (h1 6).trans ?_, (h1 7).trans ?_⟩
      · exact (World.cell?_setCell_other _ _ _ _ (by simp)).trans b0
      · exact (World.cell?_setCell_other _ _ _ _ (by simp)).trans b1
      · exact (World.cell?_setCell_other _ _ _ _ (by simp)).trans b2
      · exact (World.cell?_setCell_other _ _ _ _ (by simp)).trans b3
      · exact (World.cell?_setCell_other _ _ _ _ (by simp)).trans b4
      · exact World.cell?_setCell_same _ _ _ b5
      · exact (World.cell?_setCell_other _ _ _ _ (by simp)).trans b6
      · exact (World.cell?_setCell_other _ _ _ _ (by simp)).trans b7
    clear b0 b1 b2 b3 b4 b5 b6 b7 bf z0 z1 z2 z3 z4 z5 z6 z7 y0 y1 y2 e0 e1 zz5 HOWN8 HX8
    generalize hwB : w8.setCell ⟨w6.heap.size, 5, none⟩ (.slice (some ⟨g, 0, none⟩) r.houses.length cap) = wB at *
    obtain ⟨z0, z1, z2, z3, z4, z5, z6, z7, y0, y1, y2, e0, e1⟩ := HSK.out wB HYB.out
    obtain ⟨c0, c1, c2, c3, c4, c5, c6, c7⟩ := HRC.out wB (fun _ => rfl)
    have q2 : wB.cell? ⟨g, k * 6 + 2, none⟩ = some (.int .i64 h.full) := (HOB.out.cellAt (k * 6 + 2) (by omega)).trans (flatMap_at House.cells 6 (fun _ => rfl) r.houses k 2 h HHK.out (by omega))
    have q3 : wB.cell? ⟨g, k * 6 + 3, none⟩ = some (.int .i64 h.loose) := (HOB.out.cellAt (k * 6 + 3) (by omega)).trans (flatMap_at House.cells 6 (fun _ => rfl) r.houses k 3 h HHK.out (by omega))
    have q2f := HOB.out.frozenAt (k * 6 + 2)
    have q3f := HOB.out.frozenAt (k * 6 + 3)
    have HS5 : Hid (∀ W1 : World, (∀ b o, b ≠ g → W1.cell? ⟨b, o, none⟩ = wB.cell? ⟨b, o, none⟩) → W1.cell? ⟨w.heap.size + 1, 1, none⟩ = some (.slice (some ⟨fb, fo, none⟩) x.full.length fc) ∧ W1.cell? ⟨w.heap.size + 1, 2, none⟩ = some (.slice (some ⟨lb, lo, none⟩) x.loose.length lc) ∧ W1.cell? ⟨fb, fo + k, none⟩ = some (.int .i64 fk) ∧ W1.cell? ⟨lb, lo + k, none⟩ = some (.int .i64 lk) ∧ W1.cell? ⟨w6.heap.size, 5, none⟩ = some (.slice (some ⟨g, 0, none⟩) r.houses.length cap)) := fun W1 h1 => ⟨(h1 _ _ (by omega)).trans y1, (h1 _ _ (by omega)).trans y2, (h1 _ _ (by omega)).trans e0, (h1 _ _ (by omega)).trans e1, (h1 _ _ (by omega)).trans c5⟩
    clear hwB
    go_region_held3 (fun w' => w'.cell? ⟨w.heap.size + 1, 1, none⟩ = some (.slice (some ⟨fb, fo, none⟩) x.full.length fc) ∧ w'.cell? ⟨w.heap.size + 1, 2, none⟩ = some (.slice (some ⟨lb, lo, none⟩) x.loose.length lc) ∧ w'.cell? ⟨fb, fo + k, none⟩ = some (.int .i64 fk) ∧ w'.cell? ⟨lb, lo + k, none⟩ = some (.int .i64 lk) ∧ w'.cell? ⟨w6.heap.size, 5, none⟩ = some (.slice (some ⟨g, 0, none⟩) r.houses.length cap))
      (first | exact HS5.out _ (fun b o hb => rfl) | exact HS5.out _ (fun b o hb => cell_set_ne (W := wB) hb) | exact HS5.out _ (fun b o hb => (cell_set_ne (W := wB.setCell ⟨g, k * 6 + 2, none⟩ (.int .i64 fk)) hb).trans (cell_set_ne hb)))
      (first | fail)
    have HYC : Hid (Ext ((w.alloc (boxD r a c)).alloc (boxT x (some ⟨fb, fo, none⟩) (some ⟨lb, lo, none⟩) fc lc)) (((wB.setCell ⟨g, k * 6 + 2, none⟩ (.int .i64 fk)).setCell ⟨g, k * 6 + 3, none⟩ (.int .i64 lk)).drew)) := ((HYB.out.setCell (by show _ ≤ g; omega) _).setCell (by show _ ≤ g; omega) _).drew
    have HOC := Lib.hid (((HOB.out.stored (k * 6 + 2) (.int .i64 fk)).1.stored (k * 6 + 3) (.int .i64 lk)).1.drew)
    have HRCC := Lib.hid (HRC.out (((wB.setCell ⟨g, k * 6 + 2, none⟩ (.int .i64 fk)).setCell ⟨g, k * 6 + 3, none⟩ (.int .i64 lk)).drew) (fun o => (cell_set_ne (W := wB.setCell ⟨g, k * 6 + 2, none⟩ (.int .i64 fk)) (b := w6.heap.size) (by omega)).trans (cell_set_ne (by omega))))
    clear z0 z1 z2 z3 z4 z5 z6 z7 y0 y1 y2 e0 e1 c0 c1 c2 c3 c4 c5 c6 c7 q2 q3 q2f q3f HS5 HOB HRC HYB
    have HWC : Hid ((((wB.setCell ⟨g, k * 6 + 2, none⟩ (.int .i64 fk)).setCell ⟨g, k * 6 + 3, none⟩ (.int .i64 lk)).drew) = (((wB.setCell ⟨g, k * 6 + 2, none⟩ (.int .i64 fk)).setCell ⟨g, k * 6 + 3, none⟩ (.int .i64 lk)).drew)) := Lib.hid rfl
    generalize hwC : (((wB.setCell ⟨g, k * 6 + 2, none⟩ (.int .i64 fk)).setCell ⟨g, k * 6 + 3, none⟩ (.int .i64 lk)).drew) = wC at *
    obtain ⟨z0, z1, z2, z3, z4, z5, z6, z7, y0, y1, y2, e0, e1⟩ := HSK.out wC HYC.out
    obtain ⟨c0, c1, c2, c3, c4, c5, c6, c7⟩ := HRCC.out
    clear hwC HWC
    have hown := HOC.out
    rw [HSF.out] at hown
    have hlen : (r.houses.set k { h with full := fk, loose := lk }).length = r.houses.length := by simp
    have hrat : RoundAt wC (.agg #[.int .i64 r.per, .int .i64 r.lo, .int .i64 r.hi, .int .i64 r.card, .int .i64 r.slack, (.slice (some ⟨g, 0, none⟩) r.houses.length cap), .int .i64 r.all, .int .i64 r.off]) (rightR r x k) := by
      rw [HRE.out]
      refine ⟨(.slice (some ⟨g, 0, none⟩) r.houses.length cap), rfl, ?_⟩
      have := RowAt.of_owns hown
      unfold HousesAt
      rw [hlen]
      exact this
    have HF2 := Lib.hid (HFT.out wC HYC.out _ _ hrat)
    clear hown hlen hrat HOC HRCC HFT
    have hyC := HYC.out
    cases hfr : fitsB (rightR r x k) x (-1) with
    | false =>
      have HFR := Lib.hid hfr
      clear hfr HAG0 HWR0 HME0
      go_wp2_with (first
        | (go_at_call 34; refine HF2.out.mono ?_; rintro e w9 ⟨is, err, rfl, hx9, hq⟩; rw [if_pos HRG.out, HFR.out] at hq; obtain ⟨rfl, rfl⟩ := hq)
        | (go_at_call 11; refine (HL.out _ (hyC.trans hx9)).mono ?_; rintro e wk ⟨rfl, hxk⟩))
      go_ret
      exact ⟨rfl, (HX0.out.trans (hyC.trans hx9)).trans hxk⟩
    | true =>
      have HFR := Lib.hid hfr
      have hfk' := right_fits hfr
      have hag := fits_agree HRB.out hfk'
      have hbd := fits_house HRB.out hfk' HLT.out
      rw [HGF.out, HGL.out, HNO.out] at hbd
      obtain ⟨ml, hml⟩ : ∃ ml, (spanOf (houseL r (k : Int) k)).1 = ml := ⟨_, rfl⟩
      obtain ⟨mh, hmh⟩ : ∃ mh, (spanOf (houseL r (k : Int) k)).2 = mh := ⟨_, rfl⟩
      have HME := Lib.hid (fun w1 (hx : Ext ((w.alloc (boxD r a c)).alloc (boxT x (some ⟨fb, fo, none⟩) (some ⟨lb, lo, none⟩) fc lc)) w1) => (HME0.out w1 hx).mono (R' := fun e w' => e = .returned (.tuple #[.agg #[.int .i64 ml, .int .i64 mh], .int .i64 0]) ∧ Ext w1 w') (by
        intro e w' hm
        obtain ⟨q, err, rfl, hx, hq⟩ := hm
        rw [if_pos ⟨HBR.out, HIN.out⟩, if_pos hag, Int.toNat_natCast] at hq
        obtain ⟨rfl, rfl⟩ := hq
        rw [← hml, ← hmh]
        exact ⟨rfl, hx⟩))
      rw [hml, hmh] at hbd
      obtain ⟨o1, o2⟩ := hbd
      have u1 : decide (fk * r.per + lk < ml) = false := by simp; omega
      have u2 : decide (mh < fk * r.per + lk) = false := by simp; omega
      have E1 : IntKind.i64.wrap (fk * r.per) = fk * r.per := IntWalk.i64_in _ (by omega)
      have E2 : IntKind.i64.wrap (fk * r.per + lk) = fk * r.per + lk := IntWalk.i64_in _ (by omega)
      have HWM := Lib.hid (wrong_mem HLT.out hag)
      have HWL := Lib.hid (wrong_len r)
      clear hfr hfk' hml hmh o1 o2 hag HME0
      cases hA : agreeB r (-1) with
      | true =>
        have HAG := Lib.hid (fun w1 (hx : Ext ((w.alloc (boxD r a c)).alloc (boxT x (some ⟨fb, fo, none⟩) (some ⟨lb, lo, none⟩) fc lc)) w1) => (HAG0.out w1 hx).mono (R' := fun e w' => e = .returned (.tuple #[.bool true, .int .i64 0]) ∧ Ext w1 w') (by
          intro e w' hm
          obtain ⟨err, b, rfl, hx, hq⟩ := agree_parts hm
          rw [if_pos HBR.out, hA] at hq
          obtain ⟨rfl, rfl⟩ := hq
          exact ⟨rfl, hx⟩))
        have HWR := Lib.hid (fun w1 (hx : Ext ((w.alloc (boxD r a c)).alloc (boxT x (some ⟨fb, fo, none⟩) (some ⟨lb, lo, none⟩) fc lc)) w1) => (HWR0.out w1 hx).mono (R' := fun e w' => e = .returned (.tuple #[.slice none 0 0, .int .i64 7]) ∧ Ext w1 w') (by
          intro e w' hm
          obtain ⟨v, err, rfl, hx, hq⟩ := hm
          rw [if_pos HBR.out, if_pos hA] at hq
          obtain ⟨rfl, rfl⟩ := hq
          exact ⟨rfl, hx⟩))
        clear hA HAG0 HWR0
        go_upto_region 14 with (first
          | (go_at_call 34; refine HF2.out.mono ?_; rintro e w9 ⟨is, err, rfl, hx9, hq⟩; rw [if_pos HRG.out, HFR.out] at hq; obtain ⟨rfl, rfl⟩ := hq; have hy9 := hyC.trans hx9; clear z0 z1 z2 z3 z4 z5 z6 z7 y0 y1 y2 e0 e1; obtain ⟨z0, z1, z2, z3, z4, z5, z6, z7, y0, y1, y2, e0, e1⟩ := HSK.out _ hy9)
          | (go_at_call 35; refine (HAG.out _ hy9).mono ?_; rintro e w10 ⟨rfl, hx10⟩; have hy10 := hy9.trans hx10; clear z0 z1 z2 z3 z4 z5 z6 z7 y0 y1 y2 e0 e1; obtain ⟨z0, z1, z2, z3, z4, z5, z6, z7, y0, y1, y2, e0, e1⟩ := HSK.out _ hy10)
          | (go_at_call 36; refine (HWR.out _ hy10).mono ?_; rintro e w11 ⟨rfl, hx11⟩; have hy11 := hy10.trans hx11; clear z0 z1 z2 z3 z4 z5 z6 z7 y0 y1 y2 e0 e1; obtain ⟨z0, z1, z2, z3, z4, z5, z6, z7, y0, y1, y2, e0, e1⟩ := HSK.out _ hy11)
          | (go_at_call 37; refine (HME.out _ hy11).mono ?_; rintro e w12 ⟨rfl, hx12⟩; have hy12 := (hy11.trans hx12).alloc (boxS ml mh); obtain ⟨⟨s0, s1⟩, _⟩ := box2 (World.alloc_heap_new w12 (boxS ml mh)) (.int .i64 0); clear z0 z1 z2 z3 z4 z5 z6 z7 y0 y1 y2 e0 e1; obtain ⟨z0, z1, z2, z3, z4, z5, z6, z7, y0, y1, y2, e0, e1⟩ := HSK.out _ hy12))
        go_quiet (fail)
        go_wp2_with (go_at_call 11; refine (HL.out _ (hy12.drewN _)).mono ?_; rintro e wk ⟨rfl, hxk⟩)
        go_ret
        exact ⟨rfl, (HX0.out.trans (hy12.drewN _)).trans hxk⟩
      | false =>
        have HAG := Lib.hid (fun w1 (hx : Ext ((w.alloc (boxD r a c)).alloc (boxT x (some ⟨fb, fo, none⟩) (some ⟨lb, lo, none⟩) fc lc)) w1) => (HAG0.out w1 hx).mono (R' := fun e w' => e = .returned (.tuple #[.bool false, .int .i64 0]) ∧ Ext w1 w') (by
          intro e w' hm
          obtain ⟨err, b, rfl, hx, hq⟩ := agree_parts hm
          rw [if_pos HBR.out, hA] at hq
          obtain ⟨rfl, rfl⟩ := hq
          exact ⟨rfl, hx⟩))
        have HWR := Lib.hid (fun w1 (hx : Ext ((w.alloc (boxD r a c)).alloc (boxT x (some ⟨fb, fo, none⟩) (some ⟨lb, lo, none⟩) fc lc)) w1) => (HWR0.out w1 hx).mono (R' := fun e w' => ∃ (wa : Option Addr) (wn wc : Nat), e = .returned (.tuple #[.slice wa wn wc, .int .i64 0]) ∧ Ext w1 w' ∧ IntsAt w' (.slice wa wn wc) (wrongL r)) (by
          intro e w' hm
          obtain ⟨v, err, rfl, hx, hq⟩ := hm
          rw [if_pos HBR.out, if_neg (by rw [hA]; simp), if_neg (fun e => by have := HWM.out; rw [e] at this; simp at this)] at hq
          obtain ⟨rfl, hq⟩ := hq
          have hq' := hq
          obtain ⟨wa, wc, rfl, _⟩ := hq.open
          exact ⟨wa, _, wc, rfl, hx, hq'⟩))
        have HHS := Lib.hid (fun v1 w1 (hv : IntsAt w1 v1 (wrongL r)) => (has_any v1 (wrongL r) (k : Int) w1 hv (by have := HWL.out; omega)).mono (R' := fun e w' => e = .returned (.bool true) ∧ Ext w1 w') (fun e w' h => by rw [decide_eq_true HWM.out] at h; exact h))
        clear hA HAG0 HWR0
        go_upto_region 14 with (first
          | (go_at_call 34; refine HF2.out.mono ?_; rintro e w9 ⟨is, err, rfl, hx9, hq⟩; rw [if_pos HRG.out, HFR.out] at hq; obtain ⟨rfl, rfl⟩ := hq; have hy9 := hyC.trans hx9; clear z0 z1 z2 z3 z4 z5 z6 z7 y0 y1 y2 e0 e1; obtain ⟨z0, z1, z2, z3, z4, z5, z6, z7, y0, y1, y2, e0, e1⟩ := HSK.out _ hy9)
          | (go_at_call 35; refine (HAG.out _ hy9).mono ?_; rintro e w10 ⟨rfl, hx10⟩; have hy10 := hy9.trans hx10; clear z0 z1 z2 z3 z4 z5 z6 z7 y0 y1 y2 e0 e1; obtain ⟨z0, z1, z2, z3, z4, z5, z6, z7, y0, y1, y2, e0, e1⟩ := HSK.out _ hy10)
          | (go_at_call 36; refine (HWR.out _ hy10).mono ?_; rintro e w11 ⟨wa, wn, wc, rfl, hx11, hw11⟩; have hy11 := hy10.trans hx11; have HW11 := Lib.hid hw11; clear hw11; clear z0 z1 z2 z3 z4 z5 z6 z7 y0 y1 y2 e0 e1; obtain ⟨z0, z1, z2, z3, z4, z5, z6, z7, y0, y1, y2, e0, e1⟩ := HSK.out _ hy11)
          | (go_at_call 37; refine (HME.out _ hy11).mono ?_; rintro e w12 ⟨rfl, hx12⟩; have hy12 := (hy11.trans hx12).alloc (boxS ml mh); obtain ⟨⟨s0, s1⟩, _⟩ := box2 (World.alloc_heap_new w12 (boxS ml mh)) (.int .i64 0); clear z0 z1 z2 z3 z4 z5 z6 z7 y0 y1 y2 e0 e1; obtain ⟨z0, z1, z2, z3, z4, z5, z6, z7, y0, y1, y2, e0, e1⟩ := HSK.out _ hy12))
        go_quiet (fail)
        go_wp2_with (first
          | (go_at_call 38; refine (HHS.out _ _ (HW11.out.ext ((hx12.alloc (boxS ml mh)).drewN _))).mono ?_; rintro e w13 ⟨rfl, hx13⟩; have hy13 := (hy12.drewN _).trans hx13)
          | (go_at_call 11; refine (HL.out _ hy13).mono ?_; rintro e wk ⟨rfl, hxk⟩))
        go_ret
        exact ⟨rfl, (HX0.out.trans hy13).trans hxk⟩

theorem cardNamed_any (v : Value) (r : Round) (xv : Value) (x : Truth) (house : Int) (w : World) (hr : RoundAt w v r) (hx : TruthAt w xv x) (ht : TabOk w) : Calls Tryz.prog 6 #[v, xv, .int .i64 house] w (TrueP w) := by
  by_cases h : slimB r = false ∨ briefB x = false ∨ isRoundB r = false ∨ truthB r x = false ∨ inB house 0 (r.houses.length - 1) = false
  · exact named_early v r xv x house w hr hx ht h
  · simp only [not_or, Bool.not_eq_false] at h
    obtain ⟨h1, h2, h3, h4, h5⟩ := h
    obtain ⟨i1, i2⟩ := inB_iff.1 h5
    obtain ⟨k, rfl⟩ := Int.eq_ofNat_of_zero_le i1
    exact named_late v r xv x k w hr hx ht h1 h2 h3 h4 (by omega) h5
end Go.Proofs.YtpheidlocijdkaaGreatDoor
