/- Total, Buttons and Mends: both ends of all buttons, of the weight, and of a house that can be wrong. -/
import Derived.Test.YtjbeiclfggjbmaaGreatDoorWrong
namespace Go.Proofs.YtjbeiclfggjbmaaGreatDoor
open Go.RowKit

/-- A box of two cells, and what a store into it asks for. -/
theorem box2 {W : World} {b : Nat} {x y : Value} {t : TypeId} (h : W.heap[b]? = some (.cells #[x, y] t (0, 0))) (p : Value) :
    (W.cell? ⟨b, 0, none⟩ = some x ∧ W.cell? ⟨b, 1, none⟩ = some y) ∧ (W.frozen? ⟨b, 0, none⟩ = false ∧ W.frozen? ⟨b, 1, none⟩ = false) ∧
    (W.setCell ⟨b, 0, none⟩ p).cell? ⟨b, 1, none⟩ = some y ∧ (W.setCell ⟨b, 0, none⟩ p).frozen? ⟨b, 1, none⟩ = false := by
  have f0 : W.cell? ⟨b, 0, none⟩ = some x := by simp [World.cell?, h]
  have f1 : W.cell? ⟨b, 1, none⟩ = some y := by simp [World.cell?, h]
  have g0 : W.frozen? ⟨b, 0, none⟩ = false := by simp [World.frozen?, h]
  have g1 : W.frozen? ⟨b, 1, none⟩ = false := by simp [World.frozen?, h]
  refine ⟨⟨f0, f1⟩, ⟨g0, g1⟩, ?_, ?_⟩
  · rw [World.cell?_setCell_other (h := by simp)]; exact f1
  · rw [World.frozen?_setCell]; exact g1
theorem box2_end {W : World} {b : Nat} {x y : Value} {t : TypeId} (h : W.heap[b]? = some (.cells #[x, y] t (0, 0))) (p q : Value) :
    ((W.setCell ⟨b, 0, none⟩ p).setCell ⟨b, 1, none⟩ q).heap[b]? = some (.cells #[p, q] t (0, 0)) := by
  have s1 := setCell_block (i := 0) (v := p) h
  exact setCell_block (i := 1) (v := q) s1
theorem span_results {fn : Func} {p u : Nat} (hf : fn.results = #[.cell p 23, .tmp u]) {tmps : Array Value} {W : World} {b : Nat} {x y err : Value} (hp : tmps.getD p undef = .pointer (some ⟨b, 0, none⟩)) (he : tmps.getD u undef = err) (h : W.heap[b]? = some (.cells #[x, y] 23 (0, 0))) :
    (results fn tmps).run Tryz.prog W = .ok (.tuple #[.agg #[x, y], err]) W := by
  have f0 : W.cell? ⟨b, 0, none⟩ = some x := by simp [World.cell?, h]
  have f1 : W.cell? ⟨b, 1, none⟩ = some y := by simp [World.cell?, h]
  rw [results_cell_tmp hf, hp, he]
  simp [go_sem, f0, f1]
def totalL (r : Round) : Int × Int := spanOf (allL r (-1))
def weightL (r : Round) : Int × Int := spanOf (butsL r (-1))
def spanV (p : Int × Int) : Value := .agg #[.int .i64 p.1, .int .i64 p.2]
/-- What Total and Buttons answer. -/
def SpanRes (r : Round) (p : Int × Int) (w : World) (e : Ending) (w' : World) : Prop := ∃ (q : Int × Int) (err : Int), e = .returned (.tuple #[spanV q, .int .i64 err]) ∧ Ext w w' ∧
  if isRoundB r = true then (if agreeB r (-1) = true then err = 0 ∧ q = p else err = 7 ∧ q = (0, 0)) else err = 2 ∧ q = (0, 0)
theorem FoundAt.all {r : Round} {lss : List (List Int)} {free : Int} (hB : RoundB r) (ha : agreeB r free = true) 
    (hc : Col r.houses.length lss (houseR r free (r.hi + 1)) (allR r free (r.hi + 1)) (buttonR r free (r.hi + 1))) {zs : List Int} (hz : lss[r.houses.length]? = some zs) :
    ∃ x l, zs = x :: l ∧ spanOf (x :: l) = spanOf (allL r free) := by
  obtain ⟨ys, h1, h2⟩ := hc.a
  rw [hz] at h1; cases h1
  have hm : ∀ m, m ∈ zs ↔ m ∈ allL r free := fun m => (h2 m).trans (mem_allL hB).symm
  cases zs with
  | nil =>
    obtain ⟨m, hm'⟩ := List.exists_mem_of_ne_nil _ (allL_ne hB ha)
    have := (hm m).2 hm'; simp at this
  | cons x l => exact ⟨x, l, rfl, spanOf_congr hm⟩
theorem FoundAt.buts {r : Round} {lss : List (List Int)} {free : Int} (hB : RoundB r) (ha : agreeB r free = true) 
    (hc : Col r.houses.length lss (houseR r free (r.hi + 1)) (allR r free (r.hi + 1)) (buttonR r free (r.hi + 1))) {zs : List Int} (hz : lss[r.houses.length + 1]? = some zs) :
    ∃ x l, zs = x :: l ∧ spanOf (x :: l) = spanOf (butsL r free) := by
  obtain ⟨ys, h1, h2⟩ := hc.c
  rw [hz] at h1; cases h1
  have hm : ∀ m, m ∈ zs ↔ m ∈ butsL r free := fun m => (h2 m).trans (mem_butsL hB).symm
  cases zs with
  | nil =>
    obtain ⟨m, hm'⟩ := List.exists_mem_of_ne_nil _ (butsL_ne ha)
    have := (hm m).2 hm'; simp at this
  | cons x l => exact ⟨x, l, rfl, spanOf_congr hm⟩

set_option maxRecDepth 100000 in
set_option maxHeartbeats 2000000 in
theorem total_any (v : Value) (r : Round) (w : World) (hr : RoundAt w v r) :
    Calls Tryz.prog 67 #[v] w (SpanRes r (totalL r) w) := by
  obtain ⟨hv, rfl, hh⟩ := hr
  have hr' : RoundAt w (.agg (r.cells hv).toArray) r := ⟨hv, rfl, hh⟩
  have HA := Lib.hid (fun w1 (hx : Ext w w1) => asked_any _ r true w1 (hr'.ext hx))
  obtain ⟨a, c, rfl, _⟩ := hh.open
  unfold Round.cells at *
  clear hr' hh
  have hx0 : Ext w ((w.alloc (.cells #[.int .i64 r.per, .int .i64 r.lo, .int .i64 r.hi, .int .i64 r.card, .int .i64 r.slack, .slice a r.houses.length c, .int .i64 r.all, .int .i64 r.off] 26)).alloc (.cells #[.int .i64 0, .int .i64 0] 23)) := ((Ext.refl w).alloc _).alloc _
  have hbx0 := (two_new w (.cells #[.int .i64 r.per, .int .i64 r.lo, .int .i64 r.hi, .int .i64 r.card, .int .i64 r.slack, .slice a r.houses.length c, .int .i64 r.all, .int .i64 r.off] 26) (.cells #[.int .i64 0, .int .i64 0] 23)).2
  have HBX := Lib.hid hbx0
  clear hbx0
  cases hb : isRoundB r with
  | false =>
    have hfin : ∀ w1, Ext w w1 → SpanRes r (totalL r) w (.returned (.tuple #[.agg #[.int .i64 0, .int .i64 0], .int .i64 2])) w1 := fun w1 hx => ⟨(0, 0), 2, rfl, hx, by rw [hb, if_neg (by simp)]; exact ⟨rfl, rfl⟩⟩
    have HF := Lib.hid hfin
    have HB := Lib.hid hb
    clear hfin hb
    go_enter Tryz.func67, Tryz.ntmps67
    go_wp2_with (go_at_call 95; refine (HA.out _ hx0).mono ?_; rintro e w1 ⟨v1, err, rfl, hx1, hq⟩; rw [if_neg (by rw [HB.out]; simp)] at hq; obtain ⟨rfl, rfl⟩ := hq; have hbx := Lib.hid (((hx1.alloc (.cells #[.slice none 0 0, .slice none 0 0, .slice none 0 0] 121)).block (by simp)).trans HBX.out); obtain ⟨⟨f0, f1⟩, ⟨g0, g1⟩, k1, k2⟩ := box2 hbx.out (.int .i64 0))
    refine bodyPost_ret (span_results rfl rfl rfl (box2_end hbx.out _ _)) rfl ?_
    exact HF.out _ ((((hx0.trans hx1).alloc _).setCell (by simp) _).setCell (by simp) _)
  | true =>
    have hB := roundB_of hb
    cases ha : agreeB r (-1) with
    | false =>
      have hno : ¬ ∃ m, buttonR r (-1) (r.hi + 1) m := fun h => by have := (agreeB_iff hB).2 h; rw [ha] at this; cases this
      have hfin : ∀ w1, Ext w w1 → SpanRes r (totalL r) w (.returned (.tuple #[.agg #[.int .i64 0, .int .i64 0], .int .i64 7])) w1 := fun w1 hx => ⟨(0, 0), 7, rfl, hx, by rw [hb, if_pos rfl, ha, if_neg (by simp)]; exact ⟨rfl, rfl⟩⟩
      have HF := Lib.hid hfin
      have HB := Lib.hid hb
      clear hfin hb ha
      go_enter Tryz.func67, Tryz.ntmps67
      go_wp2_with (go_at_call 95; refine (HA.out _ hx0).mono ?_; rintro e w1 ⟨v1, err, rfl, hx1, hq⟩; rw [if_pos ⟨HB.out, rfl⟩] at hq; obtain ⟨rfl, rfl⟩ := hq.2 hno; clear hq; have hbx := Lib.hid (((hx1.alloc (.cells #[.slice none 0 0, .slice none 0 0, .slice none 0 0] 121)).block (by simp)).trans HBX.out); obtain ⟨⟨f0, f1⟩, ⟨g0, g1⟩, k1, k2⟩ := box2 hbx.out (.int .i64 0))
      refine bodyPost_ret (span_results rfl rfl rfl (box2_end hbx.out _ _)) rfl ?_
      exact HF.out _ ((((hx0.trans hx1).alloc _).setCell (by simp) _).setCell (by simp) _)
    | true =>
      have hyes := (agreeB_iff hB).1 ha
      have hfin : ∀ w1, Ext w w1 → SpanRes r (totalL r) w (.returned (.tuple #[spanV (totalL r), .int .i64 0])) w1 := fun w1 hx => ⟨_, 0, rfl, hx, by rw [hb, if_pos rfl, ha, if_pos rfl]; exact ⟨rfl, rfl⟩⟩
      have HF := Lib.hid hfin
      have HB := Lib.hid hb
      have HAG := Lib.hid ha
      clear hfin hb ha
      go_enter Tryz.func67, Tryz.ntmps67
      go_wp2_with (first
        | (go_at_call 95; refine (HA.out _ hx0).mono ?_; rintro e w1 ⟨v1, err, rfl, hx1, hq⟩; rw [if_pos ⟨HB.out, rfl⟩] at hq; obtain ⟨rfl, lss, hl1, hf1, hc1⟩ := hq.1 hyes; clear hq; obtain ⟨fb, a0, a1, c0, c1, xs, ys, rfl, q0, q1, q2, q3, q4⟩ := hf1.open hl1; obtain ⟨x, l, rfl, hsp⟩ := FoundAt.all hB HAG.out hc1 q0; have HSP := Lib.hid ((minmax_span x l).trans hsp); have hxa := hx1.alloc (.cells #[.slice (some ⟨fb, 0, none⟩) r.houses.length r.houses.length, .slice a0 (x :: l).length c0, .slice a1 ys.length c1] 121); have HS := Lib.hid (fun w2 (hx2 : Ext w1 w2) => span_any _ x l w2 (q2.ext hx2)); clear hsp q0 q1 q2 q3 q4 hf1)
        | (go_at_call 96; refine (HS.out _ ((Ext.refl w1).alloc _)).mono ?_; rintro e w2 ⟨rfl, hx2⟩; have hbx := Lib.hid (((hxa.trans hx2).block (by simp)).trans HBX.out); obtain ⟨⟨f0, f1⟩, ⟨g0, g1⟩, k1, k2⟩ := box2 hbx.out (.int .i64 (minT x l l.length))))
      refine bodyPost_ret (span_results rfl rfl rfl (box2_end hbx.out _ _)) rfl ?_
      have hgo := HF.out _ ((((hx0.trans hxa).trans hx2).setCell (p := ⟨w.heap.size + 1, 0, none⟩) (by simp) (.int .i64 (minT x l l.length))).setCell (p := ⟨w.heap.size + 1, 1, none⟩) (by simp) (.int .i64 (maxT x l l.length)))
      rw [show spanV (totalL r) = .agg #[.int .i64 (minT x l l.length), .int .i64 (maxT x l l.length)] from by unfold totalL; rw [← HSP.out]; rfl] at hgo
      exact hgo
set_option maxRecDepth 100000 in
set_option maxHeartbeats 2000000 in
theorem buttonsSpan_any (v : Value) (r : Round) (w : World) (hr : RoundAt w v r) :
    Calls Tryz.prog 68 #[v] w (SpanRes r (weightL r) w) := by
  obtain ⟨hv, rfl, hh⟩ := hr
  have hr' : RoundAt w (.agg (r.cells hv).toArray) r := ⟨hv, rfl, hh⟩
  have HA := Lib.hid (fun w1 (hx : Ext w w1) => asked_any _ r true w1 (hr'.ext hx))
  obtain ⟨a, c, rfl, _⟩ := hh.open
  unfold Round.cells at *
  clear hr' hh
  have hx0 : Ext w ((w.alloc (.cells #[.int .i64 r.per, .int .i64 r.lo, .int .i64 r.hi, .int .i64 r.card, .int .i64 r.slack, .slice a r.houses.length c, .int .i64 r.all, .int .i64 r.off] 26)).alloc (.cells #[.int .i64 0, .int .i64 0] 23)) := ((Ext.refl w).alloc _).alloc _
  have hbx0 := (two_new w (.cells #[.int .i64 r.per, .int .i64 r.lo, .int .i64 r.hi, .int .i64 r.card, .int .i64 r.slack, .slice a r.houses.length c, .int .i64 r.all, .int .i64 r.off] 26) (.cells #[.int .i64 0, .int .i64 0] 23)).2
  have HBX := Lib.hid hbx0
  clear hbx0
  cases hb : isRoundB r with
  | false =>
    have hfin : ∀ w1, Ext w w1 → SpanRes r (weightL r) w (.returned (.tuple #[.agg #[.int .i64 0, .int .i64 0], .int .i64 2])) w1 := fun w1 hx => ⟨(0, 0), 2, rfl, hx, by rw [hb, if_neg (by simp)]; exact ⟨rfl, rfl⟩⟩
    have HF := Lib.hid hfin
    have HB := Lib.hid hb
    clear hfin hb
    go_enter Tryz.func68, Tryz.ntmps68
    go_wp2_with (go_at_call 95; refine (HA.out _ hx0).mono ?_; rintro e w1 ⟨v1, err, rfl, hx1, hq⟩; rw [if_neg (by rw [HB.out]; simp)] at hq; obtain ⟨rfl, rfl⟩ := hq; have hbx := Lib.hid (((hx1.alloc (.cells #[.slice none 0 0, .slice none 0 0, .slice none 0 0] 121)).block (by simp)).trans HBX.out); obtain ⟨⟨f0, f1⟩, ⟨g0, g1⟩, k1, k2⟩ := box2 hbx.out (.int .i64 0))
    refine bodyPost_ret (span_results rfl rfl rfl (box2_end hbx.out _ _)) rfl ?_
    exact HF.out _ ((((hx0.trans hx1).alloc _).setCell (by simp) _).setCell (by simp) _)
  | true =>
    have hB := roundB_of hb
    cases ha : agreeB r (-1) with
    | false =>
      have hno : ¬ ∃ m, buttonR r (-1) (r.hi + 1) m := fun h => by have := (agreeB_iff hB).2 h; rw [ha] at this; cases this
      have hfin : ∀ w1, Ext w w1 → SpanRes r (weightL r) w (.returned (.tuple #[.agg #[.int .i64 0, .int .i64 0], .int .i64 7])) w1 := fun w1 hx => ⟨(0, 0), 7, rfl, hx, by rw [hb, if_pos rfl, ha, if_neg (by simp)]; exact ⟨rfl, rfl⟩⟩
      have HF := Lib.hid hfin
      have HB := Lib.hid hb
      clear hfin hb ha
      go_enter Tryz.func68, Tryz.ntmps68
      go_wp2_with (go_at_call 95; refine (HA.out _ hx0).mono ?_; rintro e w1 ⟨v1, err, rfl, hx1, hq⟩; rw [if_pos ⟨HB.out, rfl⟩] at hq; obtain ⟨rfl, rfl⟩ := hq.2 hno; clear hq; have hbx := Lib.hid (((hx1.alloc (.cells #[.slice none 0 0, .slice none 0 0, .slice none 0 0] 121)).block (by simp)).trans HBX.out); obtain ⟨⟨f0, f1⟩, ⟨g0, g1⟩, k1, k2⟩ := box2 hbx.out (.int .i64 0))
      refine bodyPost_ret (span_results rfl rfl rfl (box2_end hbx.out _ _)) rfl ?_
      exact HF.out _ ((((hx0.trans hx1).alloc _).setCell (by simp) _).setCell (by simp) _)
    | true =>
      have hyes := (agreeB_iff hB).1 ha
      have hfin : ∀ w1, Ext w w1 → SpanRes r (weightL r) w (.returned (.tuple #[spanV (weightL r), .int .i64 0])) w1 := fun w1 hx => ⟨_, 0, rfl, hx, by rw [hb, if_pos rfl, ha, if_pos rfl]; exact ⟨rfl, rfl⟩⟩
      have HF := Lib.hid hfin
      have HB := Lib.hid hb
      have HAG := Lib.hid ha
      clear hfin hb ha
      go_enter Tryz.func68, Tryz.ntmps68
      go_wp2_with (first
        | (go_at_call 95; refine (HA.out _ hx0).mono ?_; rintro e w1 ⟨v1, err, rfl, hx1, hq⟩; rw [if_pos ⟨HB.out, rfl⟩] at hq; obtain ⟨rfl, lss, hl1, hf1, hc1⟩ := hq.1 hyes; clear hq; obtain ⟨fb, a0, a1, c0, c1, xs, ys, rfl, q0, q1, q2, q3, q4⟩ := hf1.open hl1; obtain ⟨x, l, rfl, hsp⟩ := FoundAt.buts hB HAG.out hc1 q1; have HSP := Lib.hid ((minmax_span x l).trans hsp); have hxa := hx1.alloc (.cells #[.slice (some ⟨fb, 0, none⟩) r.houses.length r.houses.length, .slice a0 xs.length c0, .slice a1 (x :: l).length c1] 121); have HS := Lib.hid (fun w2 (hx2 : Ext w1 w2) => span_any _ x l w2 (q3.ext hx2)); clear hsp q0 q1 q2 q3 q4 hf1)
        | (go_at_call 96; refine (HS.out _ ((Ext.refl w1).alloc _)).mono ?_; rintro e w2 ⟨rfl, hx2⟩; have hbx := Lib.hid (((hxa.trans hx2).block (by simp)).trans HBX.out); obtain ⟨⟨f0, f1⟩, ⟨g0, g1⟩, k1, k2⟩ := box2 hbx.out (.int .i64 (minT x l l.length))))
      refine bodyPost_ret (span_results rfl rfl rfl (box2_end hbx.out _ _)) rfl ?_
      have hgo := HF.out _ ((((hx0.trans hxa).trans hx2).setCell (p := ⟨w.heap.size + 1, 0, none⟩) (by simp) (.int .i64 (minT x l l.length))).setCell (p := ⟨w.heap.size + 1, 1, none⟩) (by simp) (.int .i64 (maxT x l l.length)))
      rw [show spanV (weightL r) = .agg #[.int .i64 (minT x l l.length), .int .i64 (maxT x l l.length)] from by unfold weightL; rw [← HSP.out]; rfl] at hgo
      exact hgo

/-- What Mends answers. -/
def MendsRes (r : Round) (house : Int) (w : World) (e : Ending) (w' : World) : Prop := ∃ (q : Int × Int) (err : Int), e = .returned (.tuple #[spanV q, .int .i64 err]) ∧ Ext w w' ∧
  if isRoundB r = true ∧ inB house 0 (r.houses.length - 1) = true then (if agreeB r house = true then err = 0 ∧ q = spanOf (houseL r house house.toNat) else err = 7 ∧ q = (0, 0)) else err = 2 ∧ q = (0, 0)
set_option maxRecDepth 100000 in
set_option maxHeartbeats 2000000 in
theorem mends_any (v : Value) (r : Round) (house : Int) (w : World) (hr : RoundAt w v r) :
    Calls Tryz.prog 32 #[v, .int .i64 house] w (MendsRes r house w) := by
  obtain ⟨hv, rfl, hh⟩ := hr
  have hr' : RoundAt w (.agg (r.cells hv).toArray) r := ⟨hv, rfl, hh⟩
  have HR := Lib.hid (fun w1 (hx : Ext w w1) => isRound_any _ r w1 (hr'.ext hx))
  have HS := Lib.hid (fun (hB : RoundB r) free w1 (hx : Ext w w1) => search_any _ r free w1 (hr'.ext hx) hB)
  obtain ⟨a, c, rfl, h1, h2, _⟩ := hh.open
  unfold Round.cells at *
  clear hr' hh
  have hx0 : Ext w ((w.alloc (.cells #[.int .i64 r.per, .int .i64 r.lo, .int .i64 r.hi, .int .i64 r.card, .int .i64 r.slack, .slice a r.houses.length c, .int .i64 r.all, .int .i64 r.off] 26)).alloc (.cells #[.int .i64 0, .int .i64 0] 23)) := ((Ext.refl w).alloc _).alloc _
  have hbx0 := (two_new w (.cells #[.int .i64 r.per, .int .i64 r.lo, .int .i64 r.hi, .int .i64 r.card, .int .i64 r.slack, .slice a r.houses.length c, .int .i64 r.all, .int .i64 r.off] 26) (.cells #[.int .i64 0, .int .i64 0] 23))
  have HBX := Lib.hid hbx0
  clear hbx0
  cases hb : isRoundB r with
  | false =>
    have hfin : ∀ w1, Ext w w1 → MendsRes r house w (.returned (.tuple #[.agg #[.int .i64 0, .int .i64 0], .int .i64 2])) w1 := fun w1 hx => ⟨(0, 0), 2, rfl, hx, by rw [hb, if_neg (by simp)]; exact ⟨rfl, rfl⟩⟩
    have HF := Lib.hid hfin
    rw [hb] at HR
    clear hfin hb
    go_enter Tryz.func32, Tryz.ntmps32
    go_wp2_with (go_at_call 101; refine (HR.out _ hx0).mono ?_; rintro e w1 ⟨rfl, hx1⟩; have hbx := Lib.hid ((hx1.block (by simp)).trans HBX.out.2); obtain ⟨⟨f0, f1⟩, ⟨g0, g1⟩, k1, k2⟩ := box2 hbx.out (.int .i64 0))
    refine bodyPost_ret (span_results rfl rfl rfl (box2_end hbx.out _ _)) rfl ?_
    exact HF.out _ (((hx0.trans hx1).setCell (by simp) _).setCell (by simp) _)
  | true =>
    have hB := roundB_of hb
    have hn1 := hB.h1
    have hn4 := hB.h2
    rw [hb] at HR
    cases hin : inB house 0 (r.houses.length - 1) with
    | false =>
      have hfin : ∀ w1, Ext w w1 → MendsRes r house w (.returned (.tuple #[.agg #[.int .i64 0, .int .i64 0], .int .i64 2])) w1 := fun w1 hx => ⟨(0, 0), 2, rfl, hx, by rw [hb, hin, if_neg (by simp)]; exact ⟨rfl, rfl⟩⟩
      have HF := Lib.hid hfin
      have HI := Lib.hid (fun w1 => hin ▸ in_any house 0 (r.houses.length - 1) w1)
      clear hfin hb hin
      go_enter Tryz.func32, Tryz.ntmps32
      go_wp2_with (first
        | (go_at_call 101; refine (HR.out _ hx0).mono ?_; rintro e w1 ⟨rfl, hx1⟩; obtain ⟨z0, z1, z2, z3, z4, z5, z6, z7⟩ := round_cells ((hx1.block (by simp; omega)).trans HBX.out.1); have hbx := Lib.hid ((hx1.block (by simp)).trans HBX.out.2); obtain ⟨⟨f0, f1⟩, ⟨g0, g1⟩, k1, k2⟩ := box2 hbx.out (.int .i64 0))
        | (go_at_call 104; refine (HI.out _).mono ?_; rintro e w' ⟨rfl, rfl⟩))
      refine bodyPost_ret (span_results rfl rfl rfl (box2_end hbx.out _ _)) rfl ?_
      exact HF.out _ (((hx0.trans hx1).setCell (by simp) _).setCell (by simp) _)
    | true =>
      obtain ⟨i1, i2⟩ := inB_iff.1 hin
      obtain ⟨k, rfl⟩ := Int.eq_ofNat_of_zero_le i1
      have hk : k < r.houses.length := by omega
      have HI := Lib.hid (fun w1 => hin ▸ in_any (k : Int) 0 (r.houses.length - 1) w1)
      cases ha : agreeB r k with
      | false =>
        have hfin : ∀ w1, Ext w w1 → MendsRes r k w (.returned (.tuple #[.agg #[.int .i64 0, .int .i64 0], .int .i64 7])) w1 := fun w1 hx => ⟨(0, 0), 7, rfl, hx, by rw [hb, hin, if_pos ⟨rfl, rfl⟩, ha, if_neg (by simp)]; exact ⟨rfl, rfl⟩⟩
        have HF := Lib.hid hfin
        have HAG := Lib.hid ha
        clear hfin hb ha hin
        go_enter Tryz.func32, Tryz.ntmps32
        go_wp2_with (first
          | (go_at_call 101; refine (HR.out _ hx0).mono ?_; rintro e w1 ⟨rfl, hx1⟩; obtain ⟨z0, z1, z2, z3, z4, z5, z6, z7⟩ := round_cells ((hx1.block (by simp; omega)).trans HBX.out.1); have hbx1 := Lib.hid ((hx1.block (by simp)).trans HBX.out.2))
          | (go_at_call 104; refine (HI.out _).mono ?_; rintro e w' ⟨rfl, rfl⟩)
          | (go_at_call 102; refine (HS.out hB k _ (hx0.trans hx1)).mono ?_; rintro e w2 ⟨v2, lss, rfl, hx2, hl2, hf2, hc2⟩; obtain ⟨fb, a0, a1, c0, c1, xs, ys, rfl, q0, q1, q2, q3, q4⟩ := hf2.open hl2; have hag := agree_of_col hB hc2 q1; rw [HAG.out] at hag)
          | (go_at_call 103; refine (agrees_any _ _ _ _ _ _ _ _).mono ?_; rintro e w3 ⟨rfl, hx3⟩; have hx23 := (hx2.alloc (.cells #[.slice (some ⟨fb, 0, none⟩) r.houses.length r.houses.length, .slice a0 xs.length c0, .slice a1 ys.length c1] 121)).trans hx3; have hbx := Lib.hid ((hx23.block (Array.getElem?_eq_some_iff.1 hbx1.out).1).trans hbx1.out); obtain ⟨⟨f0, f1⟩, ⟨g0, g1⟩, k1, k2⟩ := box2 hbx.out (.int .i64 0)))
        refine bodyPost_ret (span_results rfl rfl rfl (box2_end hbx.out _ _)) rfl ?_
        exact HF.out _ ((((hx0.trans hx1).trans hx23).setCell (by simp) _).setCell (by simp) _)
      | true =>
        have hfin : ∀ w1, Ext w w1 → MendsRes r k w (.returned (.tuple #[spanV (spanOf (houseL r k k)), .int .i64 0])) w1 := fun w1 hx => ⟨_, 0, rfl, hx, by rw [hb, hin, if_pos ⟨rfl, rfl⟩, ha, if_pos rfl]; exact ⟨rfl, rfl⟩⟩
        have HF := Lib.hid hfin
        have HAG := Lib.hid ha
        have hkd : decide ((k : Int) < (r.houses.length : Int)) = true := by simpa using hk
        clear hfin hb ha hin
        go_enter Tryz.func32, Tryz.ntmps32
        go_wp2_with (first
          | (go_at_call 101; refine (HR.out _ hx0).mono ?_; rintro e w1 ⟨rfl, hx1⟩; obtain ⟨z0, z1, z2, z3, z4, z5, z6, z7⟩ := round_cells ((hx1.block (by simp; omega)).trans HBX.out.1); have hbx1 := Lib.hid ((hx1.block (by simp)).trans HBX.out.2))
          | (go_at_call 104; refine (HI.out _).mono ?_; rintro e w' ⟨rfl, rfl⟩)
          | (go_at_call 102; refine (HS.out hB k _ (hx0.trans hx1)).mono ?_; rintro e w2 ⟨v2, lss, rfl, hx2, hl2, hf2, hc2⟩; obtain ⟨fb, a0, a1, c0, c1, xs, ys, rfl, q0, q1, q2, q3, q4⟩ := hf2.open hl2; have hag := agree_of_col hB hc2 q1; rw [HAG.out] at hag; obtain ⟨u, zs, hcu, hzs, hzi⟩ := q4 k hk; obtain ⟨x, l, rfl, hsp⟩ := FoundAt.house (B := 0) (W := w) (v := .slice none 0 0) hB HAG.out hl2 hc2 hk hzs; have HSP := Lib.hid ((minmax_span x l).trans hsp); obtain ⟨ua, uc, rfl, _⟩ := hzi.open; have HZ := Lib.hid hzi; have HCU := Lib.hid hcu; clear hsp hzs q0 q1 q2 q3 q4 hf2 hcu hzi)
          | (go_at_call 103; refine (agrees_any _ _ _ _ _ _ _ _).mono ?_; rintro e w3 ⟨rfl, hx3⟩; have d0 := hx3.cell (a := ⟨w2.heap.size, 0, none⟩) (v := .slice (some ⟨fb, 0, none⟩) r.houses.length r.houses.length) (by go_simp); have hx2a := ((Ext.refl w2).alloc (.cells #[.slice (some ⟨fb, 0, none⟩) r.houses.length r.houses.length, .slice a0 xs.length c0, .slice a1 ys.length c1] 121)).trans hx3; have d1 := hx2a.cell HCU.out; have HS4 := Lib.hid (span_any _ x l w3 (HZ.out.ext hx2a)); have hx23 := hx2.trans hx2a)
          | (go_at_call 96; refine HS4.out.mono ?_; rintro e w4 ⟨rfl, hx4⟩; have hbx := Lib.hid (((hx23.trans hx4).block (Array.getElem?_eq_some_iff.1 hbx1.out).1).trans hbx1.out); obtain ⟨⟨f0, f1⟩, ⟨g0, g1⟩, k1, k2⟩ := box2 hbx.out (.int .i64 (minT x l l.length))))
        refine bodyPost_ret (span_results rfl rfl rfl (box2_end hbx.out _ _)) rfl ?_
        have hgo := HF.out _ (((((hx0.trans hx1).trans hx23).trans hx4).setCell (p := ⟨w.heap.size + 1, 0, none⟩) (by simp) (.int .i64 (minT x l l.length))).setCell (p := ⟨w.heap.size + 1, 1, none⟩) (by simp) (.int .i64 (maxT x l l.length)))
        rw [show spanV (spanOf (houseL r k k)) = .agg #[.int .i64 (minT x l l.length), .int .i64 (maxT x l l.length)] from by rw [← HSP.out]; rfl] at hgo
        exact hgo
end Go.Proofs.YtjbeiclfggjbmaaGreatDoor
