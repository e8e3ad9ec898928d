/- Total, Buttons and Mends: both ends of all buttons, of the weight, and of a house that can be wrong. -/
import Derived.Test.YtbeophjdiddomaaGreatDoorKnown
import Derived.Test.YtbeophjdiddomaaGreatDoorSame
import Derived.Deep.RegionHeld3
import Derived.Deep.DeepCutAuto
import Derived.StillTailTactics
import Derived.IntWalk
namespace Go.Proofs.YtbeophjdiddomaaGreatDoor
open Go.RowKit

/-- A box of two cells, and what a store into it asks for. -/
theorem box2 {W : World} {b : Nat} {x y : Value} {t : TypeId} (h : W.heap[b]? = some (.cells #[x, y] t (0, 0))) (p : Value) :
    (W.cell? ⟨b, 0, none⟩ = some x ∧ W.cell? ⟨b, 1, none⟩ = some y) ∧ (W.frozen? ⟨b, 0, none⟩ = false ∧ W.frozen? ⟨b, 1, none⟩ = false) ∧
    (W.setCell ⟨b, 0, none⟩ p).cell? ⟨b, 1, none⟩ = some y ∧ (W.setCell ⟨b, 0, none⟩ p).frozen? ⟨b, 1, none⟩ = false := by
  have f0 : W.cell? ⟨b, 0, none⟩ = some x := by simp [World.cell?, h]
  have f1 : W.cell? ⟨b, 1, none⟩ = some y := by simp [World.cell?, h]
  have g0 : W.frozen? ⟨b, 0, none⟩ = false := by simp [World.frozen?, h]
  have g1 : W.frozen? ⟨b, 1, none⟩ = false := by simp [World.frozen?, h]
  refine ⟨⟨f0, f1⟩, ⟨g0, g1⟩, ?_, ?_⟩
  · rw [World.cell?_setCell_other (h := by simp)]; exact f1
  · rw [World.frozen?_setCell]; exact g1
theorem box2_end {W : World} {b : Nat} {x y : Value} {t : TypeId} (h : W.heap[b]? = some (.cells #[x, y] t (0, 0))) (p q : Value) :
    ((W.setCell ⟨b, 0, none⟩ p).setCell ⟨b, 1, none⟩ q).heap[b]? = some (.cells #[p, q] t (0, 0)) := by
  have s1 := setCell_block (i := 0) (v := p) h
  exact setCell_block (i := 1) (v := q) s1
theorem span_results {fn : Func} {p u : Nat} (hf : fn.results = #[.cell p 23, .tmp u]) {tmps : Array Value} {W : World} {b : Nat} {x y err : Value} (hp : tmps.getD p undef = .pointer (some ⟨b, 0, none⟩)) (he : tmps.getD u undef = err) (h : W.heap[b]? = some (.cells #[x, y] 23 (0, 0))) :
    (results fn tmps).run Tryz.prog W = .ok (.tuple #[.agg #[x, y], err]) W := by
  have f0 : W.cell? ⟨b, 0, none⟩ = some x := by simp [World.cell?, h]
  have f1 : W.cell? ⟨b, 1, none⟩ = some y := by simp [World.cell?, h]
  rw [results_cell_tmp hf, hp, he]
  simp [go_sem, f0, f1]
def totalL (r : Round) : Int × Int := spanOf (allL r (-1))
def weightL (r : Round) : Int × Int := spanOf (butsL r (-1))
def spanV (p : Int × Int) : Value := .agg #[.int .i64 p.1, .int .i64 p.2]
/-- What Total and Buttons answer. -/
def SpanRes (r : Round) (p : Int × Int) (w : World) (e : Ending) (w' : World) : Prop := ∃ (q : Int × Int) (err : Int), e = .returned (.tuple #[spanV q, .int .i64 err]) ∧ Ext w w' ∧
  if isRoundB r = true then (if agreeB r (-1) = true then err = 0 ∧ q = p else err = 7 ∧ q = (0, 0)) else err = 2 ∧ q = (0, 0)
theorem FoundAt.all {r : Round} {lss : List (List Int)} {free : Int} (hB : RoundB r) (ha : agreeB r free = true) 
    (hc : Col r.houses.length lss (houseR r free (r.hi + 1)) (allR r free (r.hi + 1)) (buttonR r free (r.hi + 1))) {zs : List Int} (hz : lss[r.houses.length]? = some zs) :
    ∃ x l, zs = x :: l ∧ spanOf (x :: l) = spanOf (allL r free) := by
  obtain ⟨ys, h1, h2⟩ := hc.a
  rw [hz] at h1; cases h1
  have hm : ∀ m, m ∈ zs ↔ m ∈ allL r free := fun m => (h2 m).trans (mem_allL hB).symm
  cases zs with
  | nil =>
    obtain ⟨m, hm'⟩ := List.exists_mem_of_ne_nil _ (allL_ne hB ha)
    have := (hm m).2 hm'; simp at this
  | cons x l => exact ⟨x, l, rfl, spanOf_congr hm⟩
theorem FoundAt.buts {r : Round} {lss : List (List Int)} {free : Int} (hB : RoundB r) (ha : agreeB r free = true) 
    (hc : Col r.houses.length lss (houseR r free (r.hi + 1)) (allR r free (r.hi + 1)) (buttonR r free (r.hi + 1))) {zs : List Int} (hz : lss[r.houses.length + 1]? = some zs) :
    ∃ x l, zs = x :: l ∧ spanOf (x :: l) = spanOf (butsL r free) := by
  obtain ⟨ys, h1, h2⟩ := hc.c
  rw [hz] at h1; cases h1
  have hm : ∀ m, m ∈ zs ↔ m ∈ butsL r free := fun m => (h2 m).trans (mem_butsL hB).symm
  cases zs with
  | nil =>
    obtain ⟨m, hm'⟩ := List.exists_mem_of_ne_nil _ (butsL_ne ha)
    have := (hm m).2 hm'; simp at this
  | cons x l => exact ⟨x, l, rfl, spanOf_congr hm⟩

set_option maxRecDepth 100000 in
set_option maxHeartbeats 2000000 in
theorem total_any (v : Value) (r : Round) (w : World) (hr : RoundAt w v r) :
    Calls Tryz.prog 13 #[v] w (SpanRes r (totalL r) w) := by
  obtain ⟨hv, rfl, hh⟩ := hr
  have hr' : RoundAt w (.agg (r.cells hv).toArray) r := ⟨hv, rfl, hh⟩
  have HA := Lib.hid (fun w1 (hx : Ext w w1) => asked_any _ r true w1 (hr'.ext hx))
  obtain ⟨a, c, rfl, _⟩ := hh.open
  unfold Round.cells at *
  clear hr' hh
  have hx0 : Ext w ((w.alloc (.cells #[.int .i64 r.per, .int .i64 r.lo, .int .i64 r.hi, .int .i64 r.card, .int .i64 r.slack, .slice a r.houses.length c, .int .i64 r.all, .int .i64 r.off] 26)).alloc (.cells #[.int .i64 0, .int .i64 0] 23)) := ((Ext.refl w).alloc _).alloc _
  have hbx0 := (two_new w (.cells #[.int .i64 r.per, .int .i64 r.lo, .int .i64 r.hi, .int .i64 r.card, .int .i64 r.slack, .slice a r.houses.length c, .int .i64 r.all, .int .i64 r.off] 26) (.cells #[.int .i64 0, .int .i64 0] 23)).2
  have HBX := Lib.hid hbx0
  clear hbx0
  cases hb : isRoundB r with
  | false =>
    have hfin : ∀ w1, Ext w w1 → SpanRes r (totalL r) w (.returned (.tuple #[.agg #[.int .i64 0, .int .i64 0], .int .i64 2])) w1 := fun w1 hx => ⟨(0, 0), 2, rfl, hx, by rw [hb, if_neg (by simp)]; exact ⟨rfl, rfl⟩⟩
    have HF := Lib.hid hfin
    have HB := Lib.hid hb
    clear hfin hb
    go_enter Tryz.func13, Tryz.ntmps13
    go_wp2_with (go_at_call 42; refine (HA.out _ hx0).mono ?_; rintro e w1 ⟨v1, err, rfl, hx1, hq⟩; rw [if_neg (by rw [HB.out]; simp)] at hq; obtain ⟨rfl, rfl⟩ := hq; have hbx := Lib.hid (((hx1.alloc (.cells #[.slice none 0 0, .slice none 0 0, .slice none 0 0] 82)).block (by simp)).trans HBX.out); obtain ⟨⟨f0, f1⟩, ⟨g0, g1⟩, k1, k2⟩ := box2 hbx.out (.int .i64 0))
    refine bodyPost_ret (span_results rfl rfl rfl (box2_end hbx.out _ _)) rfl ?_
    exact HF.out _ ((((hx0.trans hx1).alloc _).setCell (by simp) _).setCell (by simp) _)
  | true =>
    have hB := roundB_of hb
    cases ha : agreeB r (-1) with
    | false =>
      have hno : ¬ ∃ m, buttonR r (-1) (r.hi + 1) m := fun h => by have := (agreeB_iff hB).2 h; rw [ha] at this; cases this
      have hfin : ∀ w1, Ext w w1 → SpanRes r (totalL r) w (.returned (.tuple #[.agg #[.int .i64 0, .int .i64 0], .int .i64 7])) w1 := fun w1 hx => ⟨(0, 0), 7, rfl, hx, by rw [hb, if_pos rfl, ha, if_neg (by simp)]; exact ⟨rfl, rfl⟩⟩
      have HF := Lib.hid hfin
      have HB := Lib.hid hb
      clear hfin hb ha
      go_enter Tryz.func13, Tryz.ntmps13
      go_wp2_with (go_at_call 42; refine (HA.out _ hx0).mono ?_; rintro e w1 ⟨v1, err, rfl, hx1, hq⟩; rw [if_pos ⟨HB.out, rfl⟩] at hq; obtain ⟨rfl, rfl⟩ := hq.2 hno; clear hq; have hbx := Lib.hid (((hx1.alloc (.cells #[.slice none 0 0, .slice none 0 0, .slice none 0 0] 82)).block (by simp)).trans HBX.out); obtain ⟨⟨f0, f1⟩, ⟨g0, g1⟩, k1, k2⟩ := box2 hbx.out (.int .i64 0))
      refine bodyPost_ret (span_results rfl rfl rfl (box2_end hbx.out _ _)) rfl ?_
      exact HF.out _ ((((hx0.trans hx1).alloc _).setCell (by simp) _).setCell (by simp) _)
    | true =>
      have hyes := (agreeB_iff hB).1 ha
      have hfin : ∀ w1, Ext w w1 → SpanRes r (totalL r) w (.returned (.tuple #[spanV (totalL r), .int .i64 0])) w1 := fun w1 hx => ⟨_, 0, rfl, hx, by rw [hb, if_pos rfl, ha, if_pos rfl]; exact ⟨rfl, rfl⟩⟩
      have HF := Lib.hid hfin
      have HB := Lib.hid hb
      have HAG := Lib.hid ha
      clear hfin hb ha
      go_enter Tryz.func13, Tryz.ntmps13
      go_wp2_with (first
        | (go_at_call 42; refine (HA.out _ hx0).mono ?_; rintro e w1 ⟨v1, err, rfl, hx1, hq⟩; rw [if_pos ⟨HB.out, rfl⟩] at hq; obtain ⟨rfl, lss, hl1, hf1, hc1⟩ := hq.1 hyes; clear hq; obtain ⟨fb, a0, a1, c0, c1, xs, ys, rfl, q0, q1, q2, q3, q4⟩ := hf1.open hl1; obtain ⟨x, l, rfl, hsp⟩ := FoundAt.all hB HAG.out hc1 q0; have HSP := Lib.hid ((minmax_span x l).trans hsp); have hxa := hx1.alloc (.cells #[.slice (some ⟨fb, 0, none⟩) r.houses.length r.houses.length, .slice a0 (x :: l).length c0, .slice a1 ys.length c1] 82); have HS := Lib.hid (fun w2 (hx2 : Ext w1 w2) => span_any _ x l w2 (q2.ext hx2)); clear hsp q0 q1 q2 q3 q4 hf1)
        | (go_at_call 43; refine (HS.out _ ((Ext.refl w1).alloc _)).mono ?_; rintro e w2 ⟨rfl, hx2⟩; have hbx := Lib.hid (((hxa.trans hx2).block (by simp)).trans HBX.out); obtain ⟨⟨f0, f1⟩, ⟨g0, g1⟩, k1, k2⟩ := box2 hbx.out (.int .i64 (minT x l l.length))))
      refine bodyPost_ret (span_results rfl rfl rfl (box2_end hbx.out _ _)) rfl ?_
      have hgo := HF.out _ ((((hx0.trans hxa).trans hx2).setCell (p := ⟨w.heap.size + 1, 0, none⟩) (by simp) (.int .i64 (minT x l l.length))).setCell (p := ⟨w.heap.size + 1, 1, none⟩) (by simp) (.int .i64 (maxT x l l.length)))
      rw [show spanV (totalL r) = .agg #[.int .i64 (minT x l l.length), .int .i64 (maxT x l l.length)] from by unfold totalL; rw [← HSP.out]; rfl] at hgo
      exact hgo
set_option maxRecDepth 100000 in
set_option maxHeartbeats 2000000 in
theorem buttonsSpan_any (v : Value) (r : Round) (w : World) (hr : RoundAt w v r) :
    Calls Tryz.prog 14 #[v] w (SpanRes r (weightL r) w) := by
  obtain ⟨hv, rfl, hh⟩ := hr
  have hr' : RoundAt w (.agg (r.cells hv).toArray) r := ⟨hv, rfl, hh⟩
  have HA := Lib.hid (fun w1 (hx : Ext w w1) => asked_any _ r true w1 (hr'.ext hx))
  obtain ⟨a, c, rfl, _⟩ := hh.open
  unfold Round.cells at *
  clear hr' hh
  have hx0 : Ext w ((w.alloc (.cells #[.int .i64 r.per, .int .i64 r.lo, .int .i64 r.hi, .int .i64 r.card, .int .i64 r.slack, .slice a r.houses.length c, .int .i64 r.all, .int .i64 r.off] 26)).alloc (.cells #[.int .i64 0, .int .i64 0] 23)) := ((Ext.refl w).alloc _).alloc _
  have hbx0 := (two_new w (.cells #[.int .i64 r.per, .int .i64 r.lo, .int .i64 r.hi, .int .i64 r.card, .int .i64 r.slack, .slice a r.houses.length c, .int .i64 r.all, .int .i64 r.off] 26) (.cells #[.int .i64 0, .int .i64 0] 23)).2
  have HBX := Lib.hid hbx0
  clear hbx0
  cases hb : isRoundB r with
  | false =>
    have hfin : ∀ w1, Ext w w1 → SpanRes r (weightL r) w (.returned (.tuple #[.agg #[.int .i64 0, .int .i64 0], .int .i64 2])) w1 := fun w1 hx => ⟨(0, 0), 2, rfl, hx, by rw [hb, if_neg (by simp)]; exact ⟨rfl, rfl⟩⟩
    have HF := Lib.hid hfin
    have HB := Lib.hid hb
    clear hfin hb
    go_enter Tryz.func14, Tryz.ntmps14
    go_wp2_with (go_at_call 42; refine (HA.out _ hx0).mono ?_; rintro e w1 ⟨v1, err, rfl, hx1, hq⟩; rw [if_neg (by rw [HB.out]; simp)] at hq; obtain ⟨rfl, rfl⟩ := hq; have hbx := Lib.hid (((hx1.alloc (.cells #[.slice none 0 0, .slice none 0 0, .slice none 0 0] 82)).block (by simp)).trans HBX.out); obtain ⟨⟨f0, f1⟩, ⟨g0, g1⟩, k1, k2⟩ := box2 hbx.out (.int .i64 0))
    refine bodyPost_ret (span_results rfl rfl rfl (box2_end hbx.out _ _)) rfl ?_
    exact HF.out _ ((((hx0.trans hx1).alloc _).setCell (by simp) _).setCell (by simp) _)
  | true =>
    have hB := roundB_of hb
    cases ha : agreeB r (-1) with
    | false =>
      have hno : ¬ ∃ m, buttonR r (-1) (r.hi + 1) m := fun h => by have := (agreeB_iff hB).2 h; rw [ha] at this; cases this
      have hfin : ∀ w1, Ext w w1 → SpanRes r (weightL r) w (.returned (.tuple #[.agg #[.int .i64 0, .int .i64 0], .int .i64 7])) w1 := fun w1 hx => ⟨(0, 0), 7, rfl, hx, by rw [hb, if_pos rfl, ha, if_neg (by simp)]; exact ⟨rfl, rfl⟩⟩
      have HF := Lib.hid hfin
      have HB := Lib.hid hb
      clear hfin hb ha
      go_enter Tryz.func14, Tryz.ntmps14
      go_wp2_with (go_at_call 42; refine (HA.out _ hx0).mono ?_; rintro e w1 ⟨v1, err, rfl, hx1, hq⟩; rw [if_pos ⟨HB.out, rfl⟩] at hq; obtain ⟨rfl, rfl⟩ := hq.2 hno; clear hq; have hbx := Lib.hid (((hx1.alloc (.cells #[.slice none 0 0, .slice none 0 0, .slice none 0 0] 82)).block (by simp)).trans HBX.out); obtain ⟨⟨f0, f1⟩, ⟨g0, g1⟩, k1, k2⟩ := box2 hbx.out (.int .i64 0))
      refine bodyPost_ret (span_results rfl rfl rfl (box2_end hbx.out _ _)) rfl ?_
      exact HF.out _ ((((hx0.trans hx1).alloc _).setCell (by simp) _).setCell (by simp) _)
    | true =>
      have hyes := (agreeB_iff hB).1 ha
      have hfin : ∀ w1, Ext w w1 → SpanRes r (weightL r) w (.returned (.tuple #[spanV (weightL r), .int .i64 0])) w1 := fun w1 hx => ⟨_, 0, rfl, hx, by rw [hb, if_pos rfl, ha, if_pos rfl]; exact ⟨rfl, rfl⟩⟩
      have HF := Lib.hid hfin
      have HB := Lib.hid hb
      have HAG := Lib.hid ha
      clear hfin hb ha
      go_enter Tryz.func14, Tryz.ntmps14
      go_wp2_with (first
        | (go_at_call 42; refine (HA.out _ hx0).mono ?_; rintro e w1 ⟨v1, err, rfl, hx1, hq⟩; rw [if_pos ⟨HB.out, rfl⟩] at hq; obtain ⟨rfl, lss, hl1, hf1, hc1⟩ := hq.1 hyes; clear hq; obtain ⟨fb, a0, a1, c0, c1, xs, ys, rfl, q0, q1, q2, q3, q4⟩ := hf1.open hl1; obtain ⟨x, l, rfl, hsp⟩ := FoundAt.buts hB HAG.out hc1 q1; have HSP := Lib.hid ((minmax_span x l).trans hsp); have hxa := hx1.alloc (.cells #[.slice (some ⟨fb, 0, none⟩) r.houses.length r.houses.length, .slice a0 xs.length c0, .slice a1 (x :: l).length c1] 82); have HS := Lib.hid (fun w2 (hx2 : Ext w1 w2) => span_any _ x l w2 (q3.ext hx2)); clear hsp q0 q1 q2 q3 q4 hf1)
        | (go_at_call 43; refine (HS.out _ ((Ext.refl w1).alloc _)).mono ?_; rintro e w2 ⟨rfl, hx2⟩; have hbx := Lib.hid (((hxa.trans hx2).block (by simp)).trans HBX.out); obtain ⟨⟨f0, f1⟩, ⟨g0, g1⟩, k1, k2⟩ := box2 hbx.out (.int .i64 (minT x l l.length))))
      refine bodyPost_ret (span_results rfl rfl rfl (box2_end hbx.out _ _)) rfl ?_
      have hgo := HF.out _ ((((hx0.trans hxa).trans hx2).setCell (p := ⟨w.heap.size + 1, 0, none⟩) (by simp) (.int .i64 (minT x l l.length))).setCell (p := ⟨w.heap.size + 1, 1, none⟩) (by simp) (.int .i64 (maxT x l l.length)))
      rw [show spanV (weightL r) = .agg #[.int .i64 (minT x l l.length), .int .i64 (maxT x l l.length)] from by unfold weightL; rw [← HSP.out]; rfl] at hgo
      exact hgo

/-- What Mends answers. -/
def MendsRes (r : Round) (house : Int) (w : World) (e : Ending) (w' : World) : Prop := ∃ (q : Int × Int) (err : Int), e = .returned (.tuple #[spanV q, .int .i64 err]) ∧ Ext w w' ∧
  if isRoundB r = true ∧ inB house 0 (r.houses.length - 1) = true then (if agreeB r house = true then err = 0 ∧ q = spanOf (houseL r house house.toNat) else err = 7 ∧ q = (0, 0)) else err = 2 ∧ q = (0, 0)
set_option maxRecDepth 100000 in
set_option maxHeartbeats 2000000 in
theorem mends_any (v : Value) (r : Round) (house : Int) (w : World) (hr : RoundAt w v r) :
    Calls Tryz.prog 28 #[v, .int .i64 house] w (MendsRes r house w) := by
  obtain ⟨hv, rfl, hh⟩ := hr
  have hr' : RoundAt w (.agg (r.cells hv).toArray) r := ⟨hv, rfl, hh⟩
  have HR := Lib.hid (fun w1 (hx : Ext w w1) => isRound_any _ r w1 (hr'.ext hx))
  have HS := Lib.hid (fun (hB : RoundB r) free w1 (hx : Ext w w1) => search_any _ r free w1 (hr'.ext hx) hB)
  obtain ⟨a, c, rfl, h1, h2, _⟩ := hh.open
  unfold Round.cells at *
  clear hr' hh
  have hx0 : Ext w ((w.alloc (.cells #[.int .i64 r.per, .int .i64 r.lo, .int .i64 r.hi, .int .i64 r.card, .int .i64 r.slack, .slice a r.houses.length c, .int .i64 r.all, .int .i64 r.off] 26)).alloc (.cells #[.int .i64 0, .int .i64 0] 23)) := ((Ext.refl w).alloc _).alloc _
  have hbx0 := (two_new w (.cells #[.int .i64 r.per, .int .i64 r.lo, .int .i64 r.hi, .int .i64 r.card, .int .i64 r.slack, .slice a r.houses.length c, .int .i64 r.all, .int .i64 r.off] 26) (.cells #[.int .i64 0, .int .i64 0] 23))
  have HBX := Lib.hid hbx0
  clear hbx0
  cases hb : isRoundB r with
  | false =>
    have hfin : ∀ w1, Ext w w1 → MendsRes r house w (.returned (.tuple #[.agg #[.int .i64 0, .int .i64 0], .int .i64 2])) w1 := fun w1 hx => ⟨(0, 0), 2, rfl, hx, by rw [hb, if_neg (by simp)]; exact ⟨rfl, rfl⟩⟩
    have HF := Lib.hid hfin
    rw [hb] at HR
    clear hfin hb
    go_enter Tryz.func28, Tryz.ntmps28
    go_wp2_with (go_at_call 39; refine (HR.out _ hx0).mono ?_; rintro e w1 ⟨rfl, hx1⟩; have hbx := Lib.hid ((hx1.block (by simp)).trans HBX.out.2); obtain ⟨⟨f0, f1⟩, ⟨g0, g1⟩, k1, k2⟩ := box2 hbx.out (.int .i64 0))
    refine bodyPost_ret (span_results rfl rfl rfl (box2_end hbx.out _ _)) rfl ?_
    exact HF.out _ (((hx0.trans hx1).setCell (by simp) _).setCell (by simp) _)
  | true =>
    have hB := roundB_of hb
    have hn1 := hB.h1
    have hn4 := hB.h2
    rw [hb] at HR
    cases hin : inB house 0 (r.houses.length - 1) with
    | false =>
      have hfin : ∀ w1, Ext w w1 → MendsRes r house w (.returned (.tuple #[.agg #[.int .i64 0, .int .i64 0], .int .i64 2])) w1 := fun w1 hx => ⟨(0, 0), 2, rfl, hx, by rw [hb, hin, if_neg (by simp)]; exact ⟨rfl, rfl⟩⟩
      have HF := Lib.hid hfin
      have HI := Lib.hid (fun w1 => hin ▸ in_any house 0 (r.houses.length - 1) w1)
      clear hfin hb hin
      go_enter Tryz.func28, Tryz.ntmps28
      go_wp2_with (first
        | (go_at_call 39; refine (HR.out _ hx0).mono ?_; rintro e w1 ⟨rfl, hx1⟩; obtain ⟨z0, z1, z2, z3, z4, z5, z6, z7⟩ := round_cells ((hx1.block (by simp; omega)).trans HBX.out.1); have hbx := Lib.hid ((hx1.block (by simp)).trans HBX.out.2); obtain ⟨⟨f0, f1⟩, ⟨g0, g1⟩, k1, k2⟩ := box2 hbx.out (.int .i64 0))
        | (go_at_call 45; refine (HI.out _).mono ?_; rintro e w' ⟨rfl, rfl⟩))
      refine bodyPost_ret (span_results rfl rfl rfl (box2_end hbx.out _ _)) rfl ?_
      exact HF.out _ (((hx0.trans hx1).setCell (by simp) _).setCell (by simp) _)
    | true =>
      obtain ⟨i1, i2⟩ := inB_iff.1 hin
      obtain ⟨k, rfl⟩ := Int.eq_ofNat_of_zero_le i1
      have hk : k < r.houses.length := by omega
      have HI := Lib.hid (fun w1 => hin ▸ in_any (k : Int) 0 (r.houses.length - 1) w1)
      cases ha : agreeB r k with
      | false =>
        have hfin : ∀ w1, Ext w w1 → MendsRes r k w (.returned (.tuple #[.agg #[.int .i64 0, .int .i64 0], .int .i64 7])) w1 := fun w1 hx => ⟨(0, 0), 7, rfl, hx, by rw [hb, hin, if_pos ⟨rfl, rfl⟩, ha, if_neg (by simp)]; exact ⟨rfl, rfl⟩⟩
        have HF := Lib.hid hfin
        have HAG := Lib.hid ha
        clear hfin hb ha hin
        go_enter Tryz.func28, Tryz.ntmps28
        go_wp2_with (first
          | (go_at_call 39; refine (HR.out _ hx0).mono ?_; rintro e w1 ⟨rfl, hx1⟩; obtain ⟨z0, z1, z2, z3, z4, z5, z6, z7⟩ := round_cells ((hx1.block (by simp; omega)).trans HBX.out.1); have hbx1 := Lib.hid ((hx1.block (by simp)).trans HBX.out.2))
          | (go_at_call 45; refine (HI.out _).mono ?_; rintro e w' ⟨rfl, rfl⟩)
          | (go_at_call 40; refine (HS.out hB k _ (hx0.trans hx1)).mono ?_; rintro e w2 ⟨v2, lss, rfl, hx2, hl2, hf2, hc2⟩; obtain ⟨fb, a0, a1, c0, c1, xs, ys, rfl, q0, q1, q2, q3, q4⟩ := hf2.open hl2; have hag := agree_of_col hB hc2 q1; rw [HAG.out] at hag)
          | (go_at_call 41; refine (agrees_any _ _ _ _ _ _ _ _).mono ?_; rintro e w3 ⟨rfl, hx3⟩; have hx23 := (hx2.alloc (.cells #[.slice (some ⟨fb, 0, none⟩) r.houses.length r.houses.length, .slice a0 xs.length c0, .slice a1 ys.length c1] 82)).trans hx3; have hbx := Lib.hid ((hx23.block (Array.getElem?_eq_some_iff.1 hbx1.out).1).trans hbx1.out); obtain ⟨⟨f0, f1⟩, ⟨g0, g1⟩, k1, k2⟩ := box2 hbx.out (.int .i64 0)))
        refine bodyPost_ret (span_results rfl rfl rfl (box2_end hbx.out _ _)) rfl ?_
        exact HF.out _ ((((hx0.trans hx1).trans hx23).setCell (by simp) _).setCell (by simp) _)
      | true =>
        have hfin : ∀ w1, Ext w w1 → MendsRes r k w (.returned (.tuple #[spanV (spanOf (houseL r k k)), .int .i64 0])) w1 := fun w1 hx => ⟨_, 0, rfl, hx, by rw [hb, hin, if_pos ⟨rfl, rfl⟩, ha, if_pos rfl]; exact ⟨rfl, rfl⟩⟩
        have HF := Lib.hid hfin
        have HAG := Lib.hid ha
        have hkd : decide ((k : Int) < (r.houses.length : Int)) = true := by simpa using hk
        clear hfin hb ha hin
        go_enter Tryz.func28, Tryz.ntmps28
        go_wp2_with (first
          | (go_at_call 39; refine (HR.out _ hx0).mono ?_; rintro e w1 ⟨rfl, hx1⟩; obtain ⟨z0, z1, z2, z3, z4, z5, z6, z7⟩ := round_cells ((hx1.block (by simp; omega)).trans HBX.out.1); have hbx1 := Lib.hid ((hx1.block (by simp)).trans HBX.out.2))
          | (go_at_call 45; refine (HI.out _).mono ?_; rintro e w' ⟨rfl, rfl⟩)
          | (go_at_call 40; refine (HS.out hB k _ (hx0.trans hx1)).mono ?_; rintro e w2 ⟨v2, lss, rfl, hx2, hl2, hf2, hc2⟩; obtain ⟨fb, a0, a1, c0, c1, xs, ys, rfl, q0, q1, q2, q3, q4⟩ := hf2.open hl2; have hag := agree_of_col hB hc2 q1; rw [HAG.out] at hag; obtain ⟨u, zs, hcu, hzs, hzi⟩ := q4 k hk; obtain ⟨x, l, rfl, hsp⟩ := FoundAt.house hB HAG.out hl2 hc2 hk hzs; have HSP := Lib.hid ((minmax_span x l).trans hsp); obtain ⟨ua, uc, rfl, _⟩ := hzi.open; have HZ := Lib.hid hzi; have HCU := Lib.hid hcu; clear hsp hzs q0 q1 q2 q3 q4 hf2 hcu hzi)
          | (go_at_call 41; refine (agrees_any _ _ _ _ _ _ _ _).mono ?_; rintro e w3 ⟨rfl, hx3⟩; have d0 := hx3.cell (a := ⟨w2.heap.size, 0, none⟩) (v := .slice (some ⟨fb, 0, none⟩) r.houses.length r.houses.length) (by go_simp); have hx2a := ((Ext.refl w2).alloc (.cells #[.slice (some ⟨fb, 0, none⟩) r.houses.length r.houses.length, .slice a0 xs.length c0, .slice a1 ys.length c1] 82)).trans hx3; have d1 := hx2a.cell HCU.out; have HS4 := Lib.hid (span_any _ x l w3 (HZ.out.ext hx2a)); have hx23 := hx2.trans hx2a)
          | (go_at_call 43; refine HS4.out.mono ?_; rintro e w4 ⟨rfl, hx4⟩; have hbx := Lib.hid (((hx23.trans hx4).block (Array.getElem?_eq_some_iff.1 hbx1.out).1).trans hbx1.out); obtain ⟨⟨f0, f1⟩, ⟨g0, g1⟩, k1, k2⟩ := box2 hbx.out (.int .i64 (minT x l l.length))))
        refine bodyPost_ret (span_results rfl rfl rfl (box2_end hbx.out _ _)) rfl ?_
        have hgo := HF.out _ (((((hx0.trans hx1).trans hx23).trans hx4).setCell (p := ⟨w.heap.size + 1, 0, none⟩) (by simp) (.int .i64 (minT x l l.length))).setCell (p := ⟨w.heap.size + 1, 1, none⟩) (by simp) (.int .i64 (maxT x l l.length)))
        rw [show spanV (spanOf (houseL r k k)) = .agg #[.int .i64 (minT x l l.length), .int .i64 (maxT x l l.length)] from by rw [← HSP.out]; rfl] at hgo
        exact hgo
end Go.Proofs.YtbeophjdiddomaaGreatDoor

/- Due: what each house is paid. -/
namespace Go.Proofs.YtbeophjdiddomaaGreatDoor
open Go.RowKit

/-! ### In plain Lean -/
def dueOne (rate k : Int) (p : Int × Int) : Int × Int := ((p.1 + k) / 144 * rate, (p.2 + k) / 144 * rate)
def dueL (r : Round) (rate : Int) (kept : List Int) : List (Int × Int) := (List.range r.houses.length).map fun i => dueOne rate (kept.getD i 0) (spanOf (houseL r (-1) i))
theorem dueL_length (r : Round) (rate : Int) (kept : List Int) : (dueL r rate kept).length = r.houses.length := by simp [dueL]
theorem dueL_at (r : Round) (rate : Int) (kept : List Int) {i : Nat} (hi : i < r.houses.length) {k : Int} (hk : kept[i]? = some k) : (dueL r rate kept)[i]? = some (dueOne rate k (spanOf (houseL r (-1) i))) := by
  unfold dueL; rw [List.getElem?_map, List.getElem?_range hi]; simp [List.getD, hk]
def keptOk (r : Round) (rate : Int) (kept : List Int) : Bool := inB rate 0 1000 && decide (kept.length = r.houses.length) && !kept.any (fun n => !inB n 0 143)
theorem own_bd {r : Round} (hB : RoundB r) {free b : Int} {i : Nat} {n : Int} (h : ownS r free b i n) : 0 ≤ n ∧ n ≤ 3000 := by
  obtain ⟨hs, h1, x, hx, rfl⟩ := h
  obtain ⟨h2, h3, _, h4, _⟩ := mem_ways hx
  have hbad := badHouse_iff.1 (hB.hs hs (List.mem_of_getElem? h1))
  have hp := hB.p1
  have := Int.mul_nonneg (a := r.per) (b := x.1) (by omega) h3
  unfold okB canB at h2
  simp only [Bool.and_eq_true, decide_eq_true_eq] at h2
  have h5 := h2.1.1.2
  exact ⟨by unfold nOf; omega, by omega⟩
theorem houseL_bd {r : Round} (hB : RoundB r) {free : Int} {i : Nat} (hi : i < r.houses.length) {m : Int} (h : m ∈ houseL r free i) : 0 ≤ m ∧ m ≤ 3000 := by
  obtain ⟨b, f, a, _, _, h3, rfl⟩ := (houseR_iff hB hi).1 ((mem_houseL hB hi).1 h)
  exact own_bd hB (h3.1 i hi)
theorem span_bd {r : Round} (hB : RoundB r) {free : Int} (ha : agreeB r free = true) {i : Nat} (hi : i < r.houses.length) : 0 ≤ (spanOf (houseL r free i)).1 ∧ (spanOf (houseL r free i)).1 ≤ 3000 ∧ 0 ≤ (spanOf (houseL r free i)).2 ∧ (spanOf (houseL r free i)).2 ≤ 3000 := by
  have h := spanOf_ends (houseL_ne hB ha hi)
  have h1 := houseL_bd hB hi h.l
  have h2 := houseL_bd hB hi h.h
  exact ⟨h1.1, h1.2, h2.1, h2.2⟩

/-- What Due answers. -/
def DueRes (r : Round) (rate : Int) (kept : List Int) (w : World) (e : Ending) (w' : World) : Prop := ∃ (v : Value) (err : Int), e = .returned (.tuple #[v, .int .i64 err]) ∧ Ext w w' ∧
  if isRoundB r = true ∧ keptOk r rate kept = true then (if agreeB r (-1) = true then err = 0 ∧ SpansAt w' v (dueL r rate kept) else err = 7 ∧ v = .slice none 0 0) else err = 2 ∧ v = .slice none 0 0
/-- What asked says of its result. -/
def AskPart (r : Round) (fine : Bool) (B : Nat) (w2 : World) (x0 x1 x2 : Value) (err : Int) : Prop :=
  if isRoundB r = true ∧ fine = true then
    ((∃ m, buttonR r (-1) (r.hi + 1) m) → err = 0 ∧ ∃ lss, lss.length = r.houses.length + 2 ∧ FoundAt B w2 (.agg #[x0, x1, x2]) r.houses.length lss ∧ Col r.houses.length lss (houseR r (-1) (r.hi + 1)) (allR r (-1) (r.hi + 1)) (buttonR r (-1) (r.hi + 1))) ∧
    ((¬ ∃ m, buttonR r (-1) (r.hi + 1) m) → err = 7)
  else err = 2
/-- What the first statement leaves. -/
def DueCut (r : Round) (fine : Bool) (w : World) (s8 s9 : Value) (W : World) : Prop := ∃ (pb : Nat) (x0 x1 x2 : Value) (err : Int), s8 = .pointer (some ⟨pb, 0, none⟩) ∧ s9 = .int .i64 err ∧ Ext w W ∧
  (W.cell? ⟨pb, 0, none⟩ = some x0 ∧ W.cell? ⟨pb, 1, none⟩ = some x1 ∧ W.cell? ⟨pb, 2, none⟩ = some x2) ∧
  AskPart r fine (w.heap.size) W x0 x1 x2 err
/-- What asked answers, with its three parts in sight. -/
theorem asked_parts {r : Round} {fine : Bool} {w : World} {e : Ending} {w' : World} (h : AskedRes r fine w e w') : ∃ (x0 x1 x2 : Value) (err : Int) (a0 a1 a2 : Option Addr) (n0 n1 n2 c0 c1 c2 : Nat), x0 = .slice a0 n0 c0 ∧ x1 = .slice a1 n1 c1 ∧ x2 = .slice a2 n2 c2 ∧ e = .returned (.tuple #[.agg #[x0, x1, x2], .int .i64 err]) ∧ Ext w w' ∧
  AskPart r fine (w.heap.size) w' x0 x1 x2 err := by
  obtain ⟨v, err, rfl, hx, hq⟩ := h
  by_cases hc : isRoundB r = true ∧ fine = true
  · rw [if_pos hc] at hq
    by_cases hm : ∃ m, buttonR r (-1) (r.hi + 1) m
    · obtain ⟨rfl, lss, hl, hf, hcol⟩ := hq.1 hm
      obtain ⟨hb, a0, a1, c0, c1, xs, ys, rfl, _⟩ := hf.open hl
      exact ⟨_, _, _, 0, _, _, _, _, _, _, _, _, _, rfl, rfl, rfl, rfl, hx, by unfold AskPart; rw [if_pos hc]; exact ⟨fun _ => ⟨rfl, lss, hl, hf, hcol⟩, fun h => absurd hm h⟩⟩
    · obtain ⟨rfl, rfl⟩ := hq.2 hm
      exact ⟨_, _, _, 7, _, _, _, _, _, _, _, _, _, rfl, rfl, rfl, rfl, hx, by unfold AskPart; rw [if_pos hc]; exact ⟨fun h => absurd h hm, fun _ => rfl⟩⟩
  · rw [if_neg hc] at hq
    obtain ⟨rfl, rfl⟩ := hq
    exact ⟨_, _, _, 2, _, _, _, _, _, _, _, _, _, rfl, rfl, rfl, rfl, hx, by unfold AskPart; rw [if_neg hc]⟩
theorem enters_due1 : ∀ args w, (callFunc 58 args).run Tryz.prog w = .ok (.enter 58 args) w := enters_of Tryz.func58 (by kernel_rfl) rfl
theorem contains_due1 (v : Value) (l : List Int) (w : World) (hv : IntsAt w v l) :
    Calls Tryz.prog 57 #[v, .func (.func 58) #[] #[]] w fun e w' => e = .returned (.bool (l.any (fun n => !inB n 0 143))) ∧ Ext w w' :=
  containsFuncI v _ _ _ l w hv (fun x _ w1 _ => (due1_any x w1).mono (by rintro e w' ⟨rfl, rfl⟩; exact ⟨rfl, Ext.refl _⟩)) enters_due1
theorem part_map {r : Round} {fine : Bool} {B B' : Nat} {w2 w3 : World} {x0 x1 x2 : Value} {err : Int} (hf : ∀ lss, FoundAt B w2 (.agg #[x0, x1, x2]) r.houses.length lss → FoundAt B' w3 (.agg #[x0, x1, x2]) r.houses.length lss)
    (hq : AskPart r fine (B) w2 x0 x1 x2 err) :
    AskPart r fine (B') w3 x0 x1 x2 err := by
  unfold AskPart at *
  by_cases hc : isRoundB r = true ∧ fine = true
  · rw [if_pos hc] at hq ⊢
    exact ⟨fun hm => by obtain ⟨h1, lss, h2, h3, h4⟩ := hq.1 hm; exact ⟨h1, lss, h2, hf _ h3, h4⟩, hq.2⟩
  · rw [if_neg hc] at hq ⊢; exact hq
theorem dueCut_new {r : Round} {fine : Bool} {B : Nat} {w w2 : World} {x0 x1 x2 : Value} {err : Int} (hx : Ext w w2) (hB : w.heap.size ≤ B) (hq : AskPart r fine (B) w2 x0 x1 x2 err) :
    DueCut r fine w (.pointer (some ⟨w2.heap.size, 0, none⟩)) (.int .i64 err) (w2.alloc (.cells #[x0, x1, x2] 82)) := by
  have hb := World.alloc_heap_new w2 (.cells #[x0, x1, x2] 82)
  obtain ⟨h0, _⟩ := box3 hb x0 x1
  exact ⟨_, x0, x1, x2, err, rfl, rfl, hx.alloc _, h0, part_map (fun lss h => (h.ext ((Ext.refl w2).alloc _)).base hB) hq⟩
theorem dueCut_old {r : Round} {fine : Bool} {B pb : Nat} {w w2 : World} {x0 x1 x2 : Value} {err : Int} (hx : Ext w w2) (hB : w.heap.size ≤ B) (hb : w2.heap[pb]? = some (.cells #[.slice none 0 0, .slice none 0 0, .slice none 0 0] 82 (0, 0))) (hp : pb < B) (hw : w.heap.size ≤ pb) (hq : AskPart r fine (B) w2 x0 x1 x2 err) :
    DueCut r fine w (.pointer (some ⟨pb, 0, none⟩)) (.int .i64 err) (((w2.setCell ⟨pb, 0, none⟩ x0).setCell ⟨pb, 1, none⟩ x1).setCell ⟨pb, 2, none⟩ x2) := by
  have he := box3_end hb x0 x1 x2
  obtain ⟨h0, _⟩ := box3 he x0 x1
  exact ⟨_, x0, x1, x2, err, rfl, rfl, ((hx.setCell hw _).setCell hw _).setCell hw _, h0, part_map (fun lss h => (((h.setCell hp).setCell hp).setCell hp).base hB) hq⟩
abbrev boxD (r : Round) (a : Option Addr) (c : Nat) : Obj := (.cells #[.int .i64 r.per, .int .i64 r.lo, .int .i64 r.hi, .int .i64 r.card, .int .i64 r.slack, .slice a r.houses.length c, .int .i64 r.all, .int .i64 r.off] 26)
set_option maxRecDepth 100000 in
set_option maxHeartbeats 8000000 in
theorem due_ok (v kv : Value) (r : Round) (rate : Int) (kept : List Int) (w : World) (hr : RoundAt w v r) (hk : IntsAt w kv kept) (hok : keptOk r rate kept = true) :
    Calls Tryz.prog 29 #[v, .int .i64 rate, kv] w (DueRes r rate kept w) := by
  obtain ⟨hv, rfl, hh⟩ := hr
  have hr' : RoundAt w (.agg (r.cells hv).toArray) r := ⟨hv, rfl, hh⟩
  obtain ⟨a, c, rfl, h1, h2, _⟩ := hh.open
  obtain ⟨ka, kc, rfl, k1, k2, k3⟩ := hk.open
  have hok2 := hok
  simp only [keptOk, Bool.and_eq_true, decide_eq_true_eq, Bool.not_eq_true'] at hok2
  obtain ⟨⟨hq1, hq2⟩, hq3⟩ := hok2
  have hr0 := inB_iff.1 hq1
  have hx0 : Ext w (w.alloc (boxD r a c)) := (Ext.refl w).alloc _
  have HX0 := Lib.hid hx0
  have HA := Lib.hid (fun fine w1 (hx : Ext (w.alloc (boxD r a c)) w1) => (asked_any _ r fine w1 (hr'.ext (hx0.trans hx))).mono (fun e w' h => asked_parts h))
  have HC := Lib.hid (fun w1 (hx : Ext (w.alloc (boxD r a c)) w1) => hq3 ▸ contains_due1 _ kept w1 (hk.ext (hx0.trans hx)))
  have HIN := Lib.hid (fun w1 => hq1 ▸ in_any rate 0 1000 w1)
  have HB := Lib.hid (fun w1 (hx : Ext (w.alloc (boxD r a c)) w1) => round_cells ((hx.block (by simp)).trans (World.alloc_heap_new w (boxD r a c))))
  have HBK := Lib.hid (fun w1 w2 (b : Nat) (hx : Ext w1 w2) (h : w1.heap[b]? = some (.cells #[.slice none 0 0, .slice none 0 0, .slice none 0 0] 82 (0, 0))) => (hx.block (Array.getElem?_eq_some_iff.1 h).1).trans h)
  unfold Round.cells at *
  have hmix : Tryz.prog.follows .mixedOrders = true := by kernel_rfl
  have HK := Lib.hid hk
  have hbz := World.size_alloc w (boxD r a c)
  have HZ := Lib.hid hbz
  have HK3 := Lib.hid k3
  have HOK := Lib.hid hok
  have HQ3 := Lib.hid hq3
  have HQ2 := Lib.hid hq2
  have t1 : ((kept.length : Int) == (r.houses.length : Int)) = true := by rw [beq_iff_eq]; omega
  have t2 : (kept.length == r.houses.length) = true := by rw [beq_iff_eq]; omega
  clear hr' hh hx0 k3 hk hbz hq1 hq3 hq2 hok
  go_enter Tryz.func29, Tryz.ntmps29
  go_upto_region 1 with fail
  go_cut [8, 9] (fun s8 s9 W => DueCut r true w s8 s9 W)
  case first =>
    go_region_held3 (fun w' => w'.cell? ⟨w.heap.size, 0, none⟩ = some (.int .i64 r.per) ∧ w'.cell? ⟨w.heap.size, 1, none⟩ = some (.int .i64 r.lo) ∧ w'.cell? ⟨w.heap.size, 2, none⟩ = some (.int .i64 r.hi) ∧ w'.cell? ⟨w.heap.size, 3, none⟩ = some (.int .i64 r.card) ∧ w'.cell? ⟨w.heap.size, 4, none⟩ = some (.int .i64 r.slack) ∧
      w'.cell? ⟨w.heap.size, 5, none⟩ = some (.slice a r.houses.length c) ∧ w'.cell? ⟨w.heap.size, 6, none⟩ = some (.int .i64 r.all) ∧ w'.cell? ⟨w.heap.size, 7, none⟩ = some (.int .i64 r.off))
      (first | go_keep | exact HB.out _ (by repeat (first | exact hx02 | exact hx01 | exact Ext.refl _ | apply Ext.drew | apply Ext.alloc | refine Ext.setCell ?_ (by rw [HZ.out]; first | (simp; done) | omega) _)))
      (first
        | (go_at_call 45; refine (HIN.out _).mono ?_; rintro e w' ⟨rfl, rfl⟩)
        | (go_at_call 57; refine (HC.out _ (by repeat (first | exact Ext.refl _ | apply Ext.drew | apply Ext.alloc))).mono ?_; rintro e w1 ⟨rfl, hx1⟩; have hx01 : Ext (w.alloc (boxD r a c)) w1 := (by repeat (first | exact Ext.refl _ | apply Ext.drew | apply Ext.alloc) : Ext _ _).trans hx1; have hz1 : w.heap.size + 1 ≤ w1.heap.size := by have := hx01.size; rw [HZ.out] at this; exact this
           first
             | have hpA := Lib.hid (HBK.out _ w1 (w.heap.size + 1) hx1 (two_new w _ _).2)
             | skip)
        | (go_at_call 42; refine (HA.out true _ (by repeat (first | exact hx01 | exact Ext.refl _ | apply Ext.drew | apply Ext.alloc))).mono ?_; rintro e w2 ⟨x0, x1, x2, err, a0, a1, a2, n0, n1, n2, c0, c1, c2, rfl, rfl, rfl, rfl, hx2, hq⟩; have HQ := Lib.hid hq; clear hq; have hx02 : Ext (w.alloc (boxD r a c)) w2 := (by repeat (first | exact hx01 | exact Ext.refl _ | apply Ext.drew | apply Ext.alloc) : Ext _ _).trans hx2; have hz2 : w.heap.size + 1 ≤ w2.heap.size := by have := hx02.size; rw [HZ.out] at this; exact this
           first
             | (have hpB := HBK.out _ w2 (w.heap.size + 1) hx2 hpA.out; obtain ⟨⟨f0, f1, f2⟩, ⟨g0, g1, g2⟩, k1, k2, k3, k4⟩ := box3 hpB (.slice a0 n0 c0) (.slice a1 n1 c1); have HPB := Lib.hid hpB; clear hpB)
             | (have hpB := HBK.out _ w2 w1.heap.size hx2 (World.alloc_heap_new w1 _); obtain ⟨⟨f0, f1, f2⟩, ⟨g0, g1, g2⟩, k1, k2, k3, k4⟩ := box3 hpB (.slice a0 n0 c0) (.slice a1 n1 c1); have HPB := Lib.hid hpB; clear hpB)
             | skip))
    all_goals (
      have hxw2 := HX0.out.trans hx02
      have hzw := hxw2.size
      go_wp2_with fail
      go_meet
      first
        | exact dueCut_new hxw2 (by have := hx01.size; rw [HZ.out] at this; omega) HQ.out
        | exact dueCut_old hxw2 (by rw [World.size_alloc]; omega) HPB.out (by rw [World.size_alloc]; omega) (by omega) HQ.out
        | exact dueCut_old hxw2 (by omega) HPB.out (by omega) (by omega) HQ.out
        | exact dueCut_old hxw2 (by omega) HPB.out (Array.getElem?_eq_some_iff.1 hpA.out).1 (by omega) HQ.out)
  case rest =>
    obtain ⟨pb, x0, x1, x2, err, rfl, rfl, hx, ⟨f0, f1, f2⟩, hq⟩ := hcut
    unfold AskPart at hq
    cases hb : isRoundB r with
    | false =>
      rw [if_neg (by rw [hb]; simp)] at hq
      subst hq
      have HF : Hid (∀ w1, Ext w w1 → DueRes r rate kept w (.returned (.tuple #[.slice none 0 0, .int .i64 2])) w1) := fun w1 hx => ⟨_, 2, rfl, hx, by rw [if_neg (by rw [hb]; simp)]; exact ⟨rfl, rfl⟩⟩
      clear hb
      go_wp2
      go_ret2
      exact HF.out _ hx
    | true =>
      have hB := roundB_of hb
      rw [if_pos ⟨hb, rfl⟩] at hq
      cases ha : agreeB r (-1) with
      | false =>
        have hno : ¬ ∃ m, buttonR r (-1) (r.hi + 1) m := fun h => by have := (agreeB_iff hB).2 h; rw [ha] at this; cases this
        have herr := hq.2 hno
        subst herr
        have HF : Hid (∀ w1, Ext w w1 → DueRes r rate kept w (.returned (.tuple #[.slice none 0 0, .int .i64 7])) w1) := fun w1 hx => ⟨_, 7, rfl, hx, by rw [if_pos ⟨hb, HOK.out⟩, ha, if_neg (by simp)]; exact ⟨rfl, rfl⟩⟩
        clear hb ha hq
        go_wp2
        go_ret2
        exact HF.out _ hx
      | true =>
        obtain ⟨herr, lss, hl1, hf1, hc1⟩ := hq.1 ((agreeB_iff hB).1 ha)
        subst herr
        have HF : Hid (∀ w1 v1, Ext w w1 → SpansAt w1 v1 (dueL r rate kept) → DueRes r rate kept w (.returned (.tuple #[v1, .int .i64 0])) w1) := fun w1 v1 hx hv => ⟨_, 0, rfl, hx, by rw [if_pos ⟨hb, HOK.out⟩, ha, if_pos rfl]; exact ⟨rfl, hv⟩⟩
        have HAG := Lib.hid ha
        obtain ⟨fb, a0, a1, c0, c1, xs, ys, hve, q0, q1, q2, q3, q4⟩ := hf1.open hl1
        have Q4 := Lib.hid q4
        have HL := Lib.hid hl1
        have h4 := hB.h2
        clear q0 q1 q2 q3 q4 hf1 hl1 hb ha hq
        have hv0 : x0 = .slice (some ⟨fb, 0, none⟩) r.houses.length r.houses.length := by injection hve with h; have := congrArg (fun a => a.getD 0 undef) h; simpa using this
        subst hv0
        clear hve f1 f2
        have hxs := hx.size
        have hpw := lt_of_cell f0
        go_wp2
        go_loopw [10, 40] (fun out i wr => ∃ k : Nat, k ≤ r.houses.length ∧ i = .int .i64 k ∧ wr.ownsRow wc.heap.size 23 2 out k (((dueL r rate kept).take k).flatMap spanCells) ∧ Ext w wr ∧ Ext wc wr) (fun _ i _ => r.houses.length - (intOf i).toNat)
        case atStart => exact ⟨0, Nat.zero_le _, rfl, World.ownsRow_nil _ _ _ _, hx, Ext.refl _⟩
        case round =>
          clear f0
          have hxw := hx
          obtain ⟨k, hk, rfl, hown, hx, hx1'⟩ := hrel
          by_cases hlt : k < r.houses.length
          · obtain ⟨u, zs, hcu, hzs, hzi⟩ := Q4.out k hlt
            obtain ⟨x, l, rfl, hsp⟩ := FoundAt.house hB HAG.out HL.out hc1 hlt hzs
            have hsb := span_bd hB HAG.out hlt
            have hspan := span_any u x l wr (hzi.ext hx1')
            rw [show minT x l l.length = (spanOf (houseL r (-1) k)).1 by rw [← hsp, ← minmax_span], show maxT x l l.length = (spanOf (houseL r (-1) k)).2 by rw [← hsp, ← minmax_span]] at hspan
            obtain ⟨kb, ko, kk, hke, hkk, hkc⟩ := HK3.out k (by rw [HQ2.out]; exact hlt)
            subst hke
            have hkb : 0 ≤ kk ∧ kk ≤ 143 := by
              have h := HQ3.out
              simp only [List.any_eq_false] at h
              have := h kk (List.mem_of_getElem? hkk.out)
              simpa [inB] using this
            have hkn := flat_succ spanCells (dueL_at r rate kept hlt hkk.out)
            have HKN := Lib.hid hkn
            generalize spanOf (houseL r (-1) k) = sp at hspan hsb HKN
            obtain ⟨lo, hi⟩ := sp
            simp only at hspan hsb
            have HS := Lib.hid hspan
            obtain ⟨s1, s2, s3, s4⟩ := hsb
            obtain ⟨b1, b2⟩ := hkb
            have hcu' := hx1'.cell hcu
            have hkc' := hx.cell hkc
            have hkc0 := hkc
            obtain ⟨ua, uc, rfl, _⟩ := hzi.open
            have x2 : decide ((k : Int) < (r.houses.length : Int)) = true := by simpa using hlt
            have x3 : k < kept.length := by rw [HQ2.out]; exact hlt
            have x4 : (k : Int) < (kept.length : Int) := by omega
            have hsz : k + 1 ≤ maxLen ∧ (k + 1) * 16 ≤ 140737488355328 := by unfold maxLen; omega
            have HSZ := Lib.hid hsz
            have hxs := hx1'.size
            have hm1 : (lo + kk) / 144 ≤ 22 := by omega
            have hm2 : (hi + kk) / 144 ≤ 22 := by omega
            have hp1 : 0 ≤ (lo + kk) / 144 * rate := Int.mul_nonneg (by omega) hr0.1
            have hp2 : (lo + kk) / 144 * rate ≤ 22000 := by
              have := Int.mul_le_mul hm1 hr0.2 hr0.1 (by omega : (0:Int) ≤ 22); omega
            have hp3 : 0 ≤ (hi + kk) / 144 * rate := Int.mul_nonneg (by omega) hr0.1
            have hp4 : (hi + kk) / 144 * rate ≤ 22000 := by
              have := Int.mul_le_mul hm2 hr0.2 hr0.1 (by omega : (0:Int) ≤ 22); omega
            clear hkn hcu hzs hsz hzi hsp hkc hspan
            go_upto_region 9 with (go_at_call 43; refine HS.out.mono ?_; rintro e w2 ⟨rfl, hx2⟩; have hbz := Nat.le_trans hxs hx2.size; have hkc2 := hx2.cell hkc')
            have hxa : Ext w2 (w2.alloc (.cells #[.int .i64 lo, .int .i64 hi] 23)) := (Ext.refl w2).alloc _
            have hkc3 := hxa.cell hkc2
            have hnb := World.alloc_heap_new w2 (.cells #[.int .i64 lo, .int .i64 hi] 23)
            obtain ⟨⟨e0, e1⟩, _⟩ := box2 hnb (.int .i64 lo)
            have hnz : w2.heap.size < (w2.alloc (.cells #[.int .i64 lo, .int .i64 hi] 23)).heap.size := by simp
            have hx23 : Ext wr (w2.alloc (.cells #[.int .i64 lo, .int .i64 hi] 23)) := hx2.trans hxa
            have hbz3 : wc.heap.size ≤ (w2.alloc (.cells #[.int .i64 lo, .int .i64 hi] 23)).heap.size := Nat.le_trans hxs hx23.size
            clear hnb hkc2 hxa
            generalize w2.alloc (.cells #[.int .i64 lo, .int .i64 hi] 23) = W2 at *
            have HX23 := Lib.hid hx23
            have E1 : IntKind.i64.wrap (lo + kk) = lo + kk := IntWalk.i64_in _ (by omega)
            have E2 : IntKind.i64.wrap (hi + kk) = hi + kk := IntWalk.i64_in _ (by omega)
            have E3 : IntKind.i64.wrap (IntKind.i64.wrap ((lo + kk).tdiv 144) * rate) = (lo + kk) / 144 * rate := by
              rw [Int.tdiv_eq_ediv_of_nonneg (by omega), IntWalk.i64_in ((lo + kk) / 144) (by omega), IntWalk.i64_in _ (by omega)]
            have E4 : IntKind.i64.wrap (IntKind.i64.wrap ((hi + kk).tdiv 144) * rate) = (hi + kk) / 144 * rate := by
              rw [Int.tdiv_eq_ediv_of_nonneg (by omega), IntWalk.i64_in ((hi + kk) / 144) (by omega), IntWalk.i64_in _ (by omega)]
            have hkw : kb < wc.heap.size := by
              have h3 := lt_of_cell hkc0
              have := hxw.size
              exact Nat.lt_of_lt_of_le h3 this
            have hne1 : ∀ g, u10.ownBlock = some g → g < wr.heap.size ∧ wc.heap.size ≤ g := fun g hg => ⟨(World.ownsRow.lt hown g hg).2, (World.ownsRow.lt hown g hg).1⟩
            have hw2 : wr.heap.size ≤ w2.heap.size := hx2.size
            have HS4 := Lib.hid (fun (w4 : World) (o : Obj) (hg : (W2.drew.alloc o).grownBy w4 u10.ownBlock) => And.intro
              (frozen_grown hg (((Ext.refl W2).drew.alloc o).cell e0) (fun e => by have := hne1 _ e.symm; simp only at this; omega)).1 (And.intro
              (frozen_grown hg (((Ext.refl W2).drew.alloc o).cell e1) (fun e => by have := hne1 _ e.symm; simp only at this; omega)).1
              (frozen_grown hg (((Ext.refl W2).drew.alloc o).cell hkc3) (fun e => by have := hne1 _ e.symm; simp only at this; omega)).1))
            have HOWN := Lib.hid (owns_ext hown hx23.drew)
            have HNE := Lib.hid hne1
            have hzw := hxw.size
            clear hown hne1
            go_region_held3 (fun w' => w'.cell? ⟨w2.heap.size, 0, none⟩ = some (.int .i64 lo) ∧ w'.cell? ⟨w2.heap.size, 1, none⟩ = some (.int .i64 hi) ∧ w'.cell? ⟨kb, ko + k, none⟩ = some (.int .i64 kk)) (first | go_keep | exact HS4.out _ _ hg4.out)
              (first
                | (refine step_push_at E_spans (by rfl) _ _ (by rfl) wc.heap.size (by rfl) HOWN.out (by rfl) (by rfl) (by rfl) (by simp [Value.oneCell']) ?_ HSZ.out.1 HSZ.out.2 hbz3; intro g cap w4 hown4 hg hloc4; have hg4 := Lib.hid hg; have HO4 := Lib.hid hown4; clear hg hown4 hloc4))
            clear E1 E2 E3 E4
            go_wp2
            refine ⟨⟨k + 1, by omega, by go_num, ?_, ?_, ?_⟩, by simp [intOf]; omega⟩
            · rw [HKN.out]; exact HO4.out
            · exact ((hx.trans HX23.out.drew).alloc _).grown hg4.out (fun k hk => by have := (HNE.out k hk).2; omega)
            · exact ((hx1'.trans HX23.out.drew).alloc _).grown hg4.out (fun k hk => (HNE.out k hk).2)
          · have hke : k = r.houses.length := by omega
            have x2 : decide ((k : Int) < (r.houses.length : Int)) = false := by simp; omega
            have hs : SpansAt wr u10 (dueL r rate kept) := by
              have := RowAt.of_owns hown
              rw [List.take_of_length_le (by rw [dueL_length]; omega)] at this
              unfold SpansAt; rw [dueL_length, ← hke]; exact this
            have HFIN := Lib.hid (HF.out wr u10 hx hs)
            clear hke hs hown
            go_wp2
            go_ret2
            exact HFIN.out
end Go.Proofs.YtbeophjdiddomaaGreatDoor
