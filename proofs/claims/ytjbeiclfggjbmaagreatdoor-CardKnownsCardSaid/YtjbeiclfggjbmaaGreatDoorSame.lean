/- asked: the search, if the round is one. -/
import Derived.Test.YtjbeiclfggjbmaaGreatDoorAgree
import Derived.Test.YtjbeiclfggjbmaaGreatDoorWeigh
import Derived.Deep.QuietTactic
import Derived.BigQuiet
import Derived.Laws.StructEq
namespace Go.Proofs.YtjbeiclfggjbmaaGreatDoor
open Go.RowKit

/-- A box of three cells, and what a store into it asks for. -/
theorem box3 {W : World} {b : Nat} {x y z : Value} {t : TypeId} (h : W.heap[b]? = some (.cells #[x, y, z] t (0, 0))) (p q : Value) :
    (W.cell? ⟨b, 0, none⟩ = some x ∧ W.cell? ⟨b, 1, none⟩ = some y ∧ W.cell? ⟨b, 2, none⟩ = some z) ∧ (W.frozen? ⟨b, 0, none⟩ = false ∧ W.frozen? ⟨b, 1, none⟩ = false ∧ W.frozen? ⟨b, 2, none⟩ = false) ∧
    (W.setCell ⟨b, 0, none⟩ p).cell? ⟨b, 1, none⟩ = some y ∧ (W.setCell ⟨b, 0, none⟩ p).frozen? ⟨b, 1, none⟩ = false ∧
    ((W.setCell ⟨b, 0, none⟩ p).setCell ⟨b, 1, none⟩ q).cell? ⟨b, 2, none⟩ = some z ∧ ((W.setCell ⟨b, 0, none⟩ p).setCell ⟨b, 1, none⟩ q).frozen? ⟨b, 2, none⟩ = false := by
  have f0 : W.cell? ⟨b, 0, none⟩ = some x := by simp [World.cell?, h]
  have f1 : W.cell? ⟨b, 1, none⟩ = some y := by simp [World.cell?, h]
  have f2 : W.cell? ⟨b, 2, none⟩ = some z := by simp [World.cell?, h]
  have g0 : W.frozen? ⟨b, 0, none⟩ = false := by simp [World.frozen?, h]
  have g1 : W.frozen? ⟨b, 1, none⟩ = false := by simp [World.frozen?, h]
  have g2 : W.frozen? ⟨b, 2, none⟩ = false := by simp [World.frozen?, h]
  refine ⟨⟨f0, f1, f2⟩, ⟨g0, g1, g2⟩, ?_, ?_, ?_, ?_⟩
  · rw [World.cell?_setCell_other (h := by simp)]; exact f1
  · rw [World.frozen?_setCell]; exact g1
  · rw [World.cell?_setCell_other (h := by simp), World.cell?_setCell_other (h := by simp)]; exact f2
  · rw [World.frozen?_setCell, World.frozen?_setCell]; exact g2
theorem box3_end {W : World} {b : Nat} {x y z : Value} {t : TypeId} (h : W.heap[b]? = some (.cells #[x, y, z] t (0, 0))) (p q s : Value) :
    (((W.setCell ⟨b, 0, none⟩ p).setCell ⟨b, 1, none⟩ q).setCell ⟨b, 2, none⟩ s).heap[b]? = some (.cells #[p, q, s] t (0, 0)) := by
  have s1 := setCell_block (i := 0) (v := p) h
  have s2 := setCell_block (i := 1) (v := q) s1
  exact setCell_block (i := 2) (v := s) s2
theorem asked_results {tmps : Array Value} {W : World} {b : Nat} {p q s : Value} {err : Value} (hp : tmps.getD 4 undef = .pointer (some ⟨b, 0, none⟩)) (he : tmps.getD 5 undef = err) (h : W.heap[b]? = some (.cells #[p, q, s] 121 (0, 0))) :
    (results Tryz.f95 tmps).run Tryz.prog W = .ok (.tuple #[.agg #[p, q, s], err]) W := by
  have f0 : W.cell? ⟨b, 0, none⟩ = some p := by simp [World.cell?, h]
  have f1 : W.cell? ⟨b, 1, none⟩ = some q := by simp [World.cell?, h]
  have f2 : W.cell? ⟨b, 2, none⟩ = some s := by simp [World.cell?, h]
  rw [results_cell_tmp rfl, hp, he]
  simp [go_sem, f0, f1, f2]
abbrev noFound : Value := .agg #[.slice none 0 0, .slice none 0 0, .slice none 0 0]
def AskedRes (r : Round) (fine : Bool) (w : World) (e : Ending) (w' : World) : Prop := ∃ (v : Value) (err : Int), e = .returned (.tuple #[v, .int .i64 err]) ∧ Ext w w' ∧
  (if isRoundB r = true ∧ fine = true then
    ((∃ m, buttonR r (-1) (r.hi + 1) m) → err = 0 ∧ ∃ lss, lss.length = r.houses.length + 2 ∧ FoundAt w.heap.size w' v r.houses.length lss ∧ Col r.houses.length lss (houseR r (-1) (r.hi + 1)) (allR r (-1) (r.hi + 1)) (buttonR r (-1) (r.hi + 1))) ∧
    ((¬ ∃ m, buttonR r (-1) (r.hi + 1) m) → err = 7 ∧ v = noFound)
  else v = noFound ∧ err = 2)
set_option maxHeartbeats 2000000 in
theorem asked_any (v : Value) (r : Round) (fine : Bool) (w : World) (hr : RoundAt w v r) :
    Calls Tryz.prog 95 #[v, .bool fine] w (AskedRes r fine w) := by
  obtain ⟨hv, rfl, hh⟩ := hr
  have hr' : RoundAt w (.agg (r.cells hv).toArray) r := ⟨hv, rfl, hh⟩
  have HR := Lib.hid (fun w1 (hx : Ext w w1) => isRound_any _ r w1 (hr'.ext hx))
  have HS := Lib.hid (fun w1 (hx : Ext w w1) (hb : isRoundB r = true) => search_any _ r (-1) w1 (hr'.ext hx) (roundB_of hb))
  obtain ⟨a, c, rfl, _⟩ := hh.open
  unfold Round.cells at *
  clear hr' hh
  cases hb : isRoundB r with
  | false =>
    rw [hb] at HR
    go_enter Tryz.func95, Tryz.ntmps95
    go_wp2_with (go_at_call 101; refine (HR.out _ (((Ext.refl w).alloc _).alloc _)).mono ?_; rintro e w1 ⟨rfl, hx1⟩; have hbx := (hx1.block (by simp)).trans (two_new w _ _).2; obtain ⟨⟨f0, f1, f2⟩, ⟨g0, g1, g2⟩, k1, k2, k3, k4⟩ := box3 hbx (.slice none 0 0) (.slice none 0 0))
    have hend := box3_end hbx (.slice none 0 0) (.slice none 0 0) (.slice none 0 0)
    refine bodyPost_ret (asked_results rfl rfl hend) rfl ⟨_, 2, rfl, ((((((Ext.refl w).alloc _).alloc _).trans hx1).setCell (by simp) _).setCell (by simp) _).setCell (by simp) _, by rw [if_neg (by rw [hb]; simp)]; exact ⟨rfl, rfl⟩⟩
  | true =>
    rw [hb] at HR
    cases fine with
    | false =>
      go_enter Tryz.func95, Tryz.ntmps95
      go_wp2_with (go_at_call 101; refine (HR.out _ (((Ext.refl w).alloc _).alloc _)).mono ?_; rintro e w1 ⟨rfl, hx1⟩; have hbx := (hx1.block (by simp)).trans (two_new w _ _).2; obtain ⟨⟨f0, f1, f2⟩, ⟨g0, g1, g2⟩, k1, k2, k3, k4⟩ := box3 hbx (.slice none 0 0) (.slice none 0 0))
      have hend := box3_end hbx (.slice none 0 0) (.slice none 0 0) (.slice none 0 0)
      refine bodyPost_ret (asked_results rfl rfl hend) rfl ⟨_, 2, rfl, ((((((Ext.refl w).alloc _).alloc _).trans hx1).setCell (by simp) _).setCell (by simp) _).setCell (by simp) _, by rw [if_neg (by simp)]; exact ⟨rfl, rfl⟩⟩
    | true =>
      by_cases hm : ∃ m, buttonR r (-1) (r.hi + 1) m
      · go_enter Tryz.func95, Tryz.ntmps95
        go_wp2_with (first
          | (go_at_call 101; refine (HR.out _ (((Ext.refl w).alloc _).alloc _)).mono ?_; rintro e w1 ⟨rfl, hx1⟩; have hbx := (hx1.block (by simp)).trans (two_new w _ _).2; obtain ⟨⟨f0, f1, f2⟩, ⟨g0, g1, g2⟩, k1, k2, k3, k4⟩ := box3 hbx (.slice none 0 0) (.slice none 0 0); have hx1' := (((Ext.refl w).alloc _).alloc _).trans hx1; have z0 := hx1.cell (a := ⟨w.heap.size, 0, none⟩) (v := .int .i64 r.per) (by go_simp); have z1 := hx1.cell (a := ⟨w.heap.size, 1, none⟩) (v := .int .i64 r.lo) (by go_simp); have z2 := hx1.cell (a := ⟨w.heap.size, 2, none⟩) (v := .int .i64 r.hi) (by go_simp); have z3 := hx1.cell (a := ⟨w.heap.size, 3, none⟩) (v := .int .i64 r.card) (by go_simp); have z4 := hx1.cell (a := ⟨w.heap.size, 4, none⟩) (v := .int .i64 r.slack) (by go_simp); have z5 := hx1.cell (a := ⟨w.heap.size, 5, none⟩) (v := .slice a r.houses.length c) (by go_simp); have z6 := hx1.cell (a := ⟨w.heap.size, 6, none⟩) (v := .int .i64 r.all) (by go_simp); have z7 := hx1.cell (a := ⟨w.heap.size, 7, none⟩) (v := .int .i64 r.off) (by go_simp))
          | (go_at_call 102; refine (HS.out _ hx1' hb).mono ?_; rintro e w2 ⟨v2, lss, rfl, hx2, hl2, hf2, hc2⟩; obtain ⟨fb, a0, a1, c0, c1, xs, ys, rfl, q0, q1, q2, q3, q4⟩ := hf2.open hl2; have hd : decide (0 < ys.length) = true := by rw [decide_eq_true_eq]; exact (col_some hc2 q1).2 hm)
          | (go_at_call 103; refine (agrees_any _ _ _ _ _ _ _ _).mono ?_; rintro e w3 ⟨rfl, hx3⟩; have hx13 := (hx2.alloc _).trans hx3; have hbx3 := (hx13.block (Array.getElem?_eq_some_iff.1 hbx).1).trans hbx; have d0 := hx3.cell (a := ⟨w2.heap.size, 0, none⟩) (v := .slice (some ⟨fb, 0, none⟩) r.houses.length r.houses.length) (by go_simp); have d1 := hx3.cell (a := ⟨w2.heap.size, 1, none⟩) (v := .slice a0 xs.length c0) (by go_simp); have d2 := hx3.cell (a := ⟨w2.heap.size, 2, none⟩) (v := .slice a1 ys.length c1) (by go_simp); clear f0 f1 f2 g0 g1 g2 k1 k2 k3 k4 z0 z1 z2 z3 z4 z5 z6 z7; obtain ⟨⟨f0, f1, f2⟩, ⟨g0, g1, g2⟩, k1, k2, k3, k4⟩ := box3 hbx3 (.slice none 0 0) (.slice none 0 0); obtain ⟨_, _, n1, n2, n3, n4⟩ := box3 hbx3 (.slice (some ⟨fb, 0, none⟩) r.houses.length r.houses.length) (.slice a0 xs.length c0)))
        have hend := box3_end hbx3 (.slice (some ⟨fb, 0, none⟩) r.houses.length r.houses.length) (.slice a0 xs.length c0) (.slice a1 ys.length c1)
        have hlt := (Array.getElem?_eq_some_iff.1 hbx).1
        have hff := ((((hf2.ext (((Ext.refl w2).alloc _).trans hx3)).setCell (b := w.heap.size + 1) (i := 0) (u := .slice (some ⟨fb, 0, none⟩) r.houses.length r.houses.length) hlt).setCell (b := w.heap.size + 1) (i := 1) (u := .slice a0 xs.length c0) hlt).setCell (b := w.heap.size + 1) (i := 2) (u := .slice a1 ys.length c1) hlt).base (B' := w.heap.size) (by omega)
        refine bodyPost_ret (asked_results rfl rfl hend) rfl ⟨_, 0, rfl, (((hx1'.trans hx13).setCell (by simp) _).setCell (by simp) _).setCell (by simp) _, by rw [if_pos ⟨hb, rfl⟩]; exact ⟨fun _ => ⟨rfl, lss, hl2, hff, hc2⟩, fun h => absurd hm h⟩⟩
      · go_enter Tryz.func95, Tryz.ntmps95
        go_wp2_with (first
          | (go_at_call 101; refine (HR.out _ (((Ext.refl w).alloc _).alloc _)).mono ?_; rintro e w1 ⟨rfl, hx1⟩; have hbx := (hx1.block (by simp)).trans (two_new w _ _).2; obtain ⟨⟨f0, f1, f2⟩, ⟨g0, g1, g2⟩, k1, k2, k3, k4⟩ := box3 hbx (.slice none 0 0) (.slice none 0 0); have hx1' := (((Ext.refl w).alloc _).alloc _).trans hx1; have z0 := hx1.cell (a := ⟨w.heap.size, 0, none⟩) (v := .int .i64 r.per) (by go_simp); have z1 := hx1.cell (a := ⟨w.heap.size, 1, none⟩) (v := .int .i64 r.lo) (by go_simp); have z2 := hx1.cell (a := ⟨w.heap.size, 2, none⟩) (v := .int .i64 r.hi) (by go_simp); have z3 := hx1.cell (a := ⟨w.heap.size, 3, none⟩) (v := .int .i64 r.card) (by go_simp); have z4 := hx1.cell (a := ⟨w.heap.size, 4, none⟩) (v := .int .i64 r.slack) (by go_simp); have z5 := hx1.cell (a := ⟨w.heap.size, 5, none⟩) (v := .slice a r.houses.length c) (by go_simp); have z6 := hx1.cell (a := ⟨w.heap.size, 6, none⟩) (v := .int .i64 r.all) (by go_simp); have z7 := hx1.cell (a := ⟨w.heap.size, 7, none⟩) (v := .int .i64 r.off) (by go_simp))
          | (go_at_call 102; refine (HS.out _ hx1' hb).mono ?_; rintro e w2 ⟨v2, lss, rfl, hx2, hl2, hf2, hc2⟩; obtain ⟨fb, a0, a1, c0, c1, xs, ys, rfl, q0, q1, q2, q3, q4⟩ := hf2.open hl2; have hd : decide (0 < ys.length) = false := by rw [decide_eq_false_iff_not]; exact fun h => hm ((col_some hc2 q1).1 h))
          | (go_at_call 103; refine (agrees_any _ _ _ _ _ _ _ _).mono ?_; rintro e w3 ⟨rfl, hx3⟩; have hx13 := (hx2.alloc _).trans hx3; have hbx3 := (hx13.block (Array.getElem?_eq_some_iff.1 hbx).1).trans hbx; have d0 := hx3.cell (a := ⟨w2.heap.size, 0, none⟩) (v := .slice (some ⟨fb, 0, none⟩) r.houses.length r.houses.length) (by go_simp); have d1 := hx3.cell (a := ⟨w2.heap.size, 1, none⟩) (v := .slice a0 xs.length c0) (by go_simp); have d2 := hx3.cell (a := ⟨w2.heap.size, 2, none⟩) (v := .slice a1 ys.length c1) (by go_simp); clear f0 f1 f2 g0 g1 g2 k1 k2 k3 k4 z0 z1 z2 z3 z4 z5 z6 z7; obtain ⟨⟨f0, f1, f2⟩, ⟨g0, g1, g2⟩, k1, k2, k3, k4⟩ := box3 hbx3 (.slice none 0 0) (.slice none 0 0); obtain ⟨_, _, n1, n2, n3, n4⟩ := box3 hbx3 (.slice (some ⟨fb, 0, none⟩) r.houses.length r.houses.length) (.slice a0 xs.length c0)))
        have hend := box3_end hbx3 (.slice none 0 0) (.slice none 0 0) (.slice none 0 0)
        refine bodyPost_ret (asked_results rfl rfl hend) rfl ⟨_, 7, rfl, (((hx1'.trans hx13).setCell (by simp) _).setCell (by simp) _).setCell (by simp) _, by rw [if_pos ⟨hb, rfl⟩]; exact ⟨fun h => absurd h hm, fun _ => ⟨rfl, rfl⟩⟩⟩
end Go.Proofs.YtjbeiclfggjbmaaGreatDoor

/- The reference's comparisons: Same, SamePlan, SameSpans. -/
namespace Go.Proofs.YtjbeiclfggjbmaaGreatDoor
open Go.RowKit

theorem take_eq_succ {α : Type} {xs ys : List α} {k : Nat} {x y : α} (h : xs.take k = ys.take k) (hx : xs[k]? = some x) (hy : ys[k]? = some y) (e : x = y) : xs.take (k + 1) = ys.take (k + 1) := by
  rw [List.take_add_one, List.take_add_one, hx, hy, h, e]
theorem ne_of_at {α : Type} {xs ys : List α} {k : Nat} {x y : α} (hx : xs[k]? = some x) (hy : ys[k]? = some y) (e : x ≠ y) : xs ≠ ys := by
  rintro rfl; rw [hx] at hy; cases hy; exact e rfl

set_option maxHeartbeats 1000000 in
theorem same_any (va vb : Value) (xs ys : List Int) (w : World) (ha : IntsAt w va xs) (hb : IntsAt w vb ys) :
    Calls Tryz.prog 34 #[va, vb] w fun e w' => e = .returned (.bool (decide (xs = ys))) ∧ Ext w w' := by
  obtain ⟨a, c, rfl, h1, h2, h3⟩ := ha.open
  obtain ⟨a', c', rfl, h1', h2', h3'⟩ := hb.open
  have hmix : Tryz.prog.follows .mixedOrders = true := by kernel_rfl
  by_cases hl : xs.length = ys.length
  · have t0 : (xs.length == ys.length) = true := by simpa using hl
    have t1 : ((xs.length : Int) != (ys.length : Int)) = false := by simp [hl]
    have HL := Lib.hid hl
    have H3 := Lib.hid h3
    have H3' := Lib.hid h3'
    clear hl h3 h3' ha hb
    go_enter Tryz.func34, Tryz.ntmps34
    go_wp2
    go_loopw [5] (fun i wr => ∃ k : Nat, k ≤ xs.length ∧ i = .int .i64 k ∧ Hid (xs.take k = ys.take k) ∧ Ext w wr) (fun i _ => xs.length - (intOf i).toNat)
    case atStart => exact ⟨0, Nat.zero_le _, rfl, by simp [Hid], Ext.refl _⟩
    case round =>
      obtain ⟨k, hk, rfl, hE, hx⟩ := hrel
      by_cases hlt : k < xs.length
      · obtain ⟨b, o, x, rfl, hxk, hc⟩ := H3.out k hlt
        obtain ⟨b', o', y, rfl, hyk, hc'⟩ := H3'.out k (by rw [← HL.out]; exact hlt)
        have hlt' : k < ys.length := by rw [← HL.out]; exact hlt
        have d0 := hx.cell hc
        have d1 := hx.cell hc'
        have x2 : decide ((k : Int) < (xs.length : Int)) = true := by simpa using hlt
        have x3 : decide ((k : Int) < (ys.length : Int)) = true := by simpa using hlt'
        clear hc hc'
        by_cases hxy : x = y
        · have hs := Lib.hid (take_eq_succ hE.out hxk.out hyk.out hxy)
          subst hxy
          go_wp2
          go_quiet (fail)
          go_wp2
          exact ⟨⟨k + 1, by omega, by go_num, hs.out, hx.drewN _⟩, by simp [intOf]; omega⟩
        · have hne : xs ≠ ys := ne_of_at hxk.out hyk.out hxy
          have hd : decide (xs = ys) = false := by simpa using hne
          have t3 : (x != y) = true := by simpa using hxy
          have HD := Lib.hid hd
          clear hne hd
          go_wp2
          go_quiet (fail)
          go_wp2
          go_ret
          exact ⟨by rw [HD.out]; rfl, hx.drewN _⟩
      · have hke : k = xs.length := by omega
        have he : xs = ys := by
          have := hE.out
          rwa [List.take_of_length_le (by omega), List.take_of_length_le (by have := HL.out; omega)] at this
        have hd : decide (xs = ys) = true := by simpa using he
        have x2 : decide ((k : Int) < (xs.length : Int)) = false := by simp; omega
        have HD := Lib.hid hd
        clear he hd hke
        go_wp2
        go_ret
        exact ⟨by rw [HD.out]; rfl, hx⟩
  · have hne : xs ≠ ys := fun e => hl (by rw [e])
    have hd : decide (xs = ys) = false := by simpa using hne
    have t0 : (xs.length == ys.length) = false := by simpa using hl
    have t1 : ((xs.length : Int) == (ys.length : Int)) = false := by rw [beq_eq_false_iff_ne]; omega
    have t2 : (xs.length != ys.length) = true := by simpa using hl
    have t3 : ((xs.length : Int) != (ys.length : Int)) = true := by rw [bne_iff_ne]; omega
    rw [hd]
    clear hne hd hl h3 h3' ha hb
    go_enter Tryz.func34, Tryz.ntmps34
    go_wp2
    go_ret
    exact ⟨rfl, Ext.refl _⟩

def spanCells (p : Int × Int) : List Value := [.int .i64 p.1, .int .i64 p.2]
/-- A slice of spans. -/
def SpansAt (w : World) (v : Value) (ks : List (Int × Int)) : Prop := RowAt w v ks.length (ks.flatMap spanCells)
theorem SpansAt.ext {w w' : World} {v : Value} {ks : List (Int × Int)} (h : SpansAt w v ks) (k : Ext w w') : SpansAt w' v ks := RowAt.ext h k
theorem SpansAt.nil (w : World) : SpansAt w (.slice none 0 0) [] := RowAt.nil w
theorem SpansAt.open {w : World} {v : Value} {ks : List (Int × Int)} (h : SpansAt w v ks) : ∃ a c, v = .slice a ks.length c ∧ ks.length ≤ c ∧ c ≤ 9223372036854775807 ∧ ∀ i, i < ks.length → ∃ b o x, a = some ⟨b, o, none⟩ ∧ Hid (ks[i]? = some x) ∧
    w.cell? ⟨b, o + i * 2, none⟩ = some (.int .i64 x.1) ∧ w.cell? ⟨b, o + i * 2 + 1, none⟩ = some (.int .i64 x.2) := by
  obtain ⟨a, c, hv, h1, h2, _, h3⟩ := h
  refine ⟨a, c, hv, h1, h2, fun i hi => ?_⟩
  have hx : ks[i]? = some ks[i] := by simp [hi]
  have key : ∀ j, j < 2 → ∀ u, (spanCells (ks[i]))[j]? = some u → ∃ b o, a = some ⟨b, o, none⟩ ∧ w.cell? ⟨b, o + (i * 2 + j), none⟩ = some u := fun j hj u hu =>
    h3 (i * 2 + j) u (by rw [flatMap_at spanCells 2 (fun _ => rfl) ks i j _ hx hj]; exact hu)
  obtain ⟨b, o, rfl, c0⟩ := key 0 (by omega) _ rfl
  obtain ⟨b', o', e, c1⟩ := key 1 (by omega) _ rfl
  cases e
  exact ⟨b, o, ks[i], rfl, hx, c0, c1⟩

theorem two_fields {l : List Field} {n1 n2 : String} {t1 t2 o1 o2 : Nat} (h : (l.map fun f => (f.name, f.type, f.offset)) = [(n1, t1, o1), (n2, t2, o2)]) : ∃ f1 f2 : Field, l = [f1, f2] ∧ f1.name = n1 ∧ f1.type = t1 ∧ f1.offset = o1 ∧ f2.name = n2 ∧ f2.type = t2 ∧ f2.offset = o2 := by
  match l, h with
  | [f1, f2], h => simp at h; exact ⟨f1, f2, rfl, h.1.1, h.1.2.1, h.1.2.2, h.2.1, h.2.2.1, h.2.2.2⟩
theorem span_fields : ((Tryz.prog.fieldsOf 23).toList.map fun f => (f.name, f.type, f.offset)) = [("Low", 3, 0), ("High", 3, 1)] := by kernel_rfl
theorem span_under : Tryz.prog.underlying 23 = some (.struct (Tryz.prog.fieldsOf 23)) := by kernel_rfl
theorem span_held : Tryz.prog.stoodInHeld 23 = false := by kernel_rfl
theorem span_guard : Tryz.prog.eqGuardType Tryz.prog.depth 23 = false := by kernel_rfl
theorem span_equal (a b c d : Int) (w : World) : (Op.equalIn 10000 23 (.agg #[.int .i64 a, .int .i64 b]) (.agg #[.int .i64 c, .int .i64 d])).run Tryz.prog w = .ok (a == c && b == d) w := by
  obtain ⟨f1, f2, hf, n1, t1, o1, n2, t2, o2⟩ := two_fields span_fields
  have hu := Tryz.underlying3
  rw [run_equalIn_struct w 9999 _ _ _ span_under span_held, hf]
  cases h1 : (a == c) <;> cases h2 : (b == d) <;> simp [Op.eqFields, go_sem, n1, t1, o1, n2, t2, o2, hu, h1, h2]
theorem span_neq (a b c d : Int) (w : World) : (binOp .neq 23 (.agg #[.int .i64 a, .int .i64 b]) (.agg #[.int .i64 c, .int .i64 d])).run Tryz.prog w = .ok (.bool (!(a == c && b == d))) w := by
  rw [run_neq_struct, span_equal]; rfl
theorem span_eql (a b c d : Int) (w : World) : (binOp .eql 23 (.agg #[.int .i64 a, .int .i64 b]) (.agg #[.int .i64 c, .int .i64 d])).run Tryz.prog w = .ok (.bool (a == c && b == d)) w := by
  rw [run_eql_struct, span_equal]; rfl
set_option maxRecDepth 100000 in
set_option maxHeartbeats 1000000 in
theorem sameSpans_any (va vb : Value) (xs ys : List (Int × Int)) (w : World) (ha : SpansAt w va xs) (hb : SpansAt w vb ys) :
    Calls Tryz.prog 29 #[va, vb] w fun e w' => e = .returned (.bool (decide (xs = ys))) ∧ Ext w w' := by
  obtain ⟨a, c, rfl, h1, h2, h3⟩ := ha.open
  obtain ⟨a', c', rfl, h1', h2', h3'⟩ := hb.open
  have hmix : Tryz.prog.follows .mixedOrders = true := by kernel_rfl
  have hsg := span_guard
  have hsn := span_neq
  by_cases hl : xs.length = ys.length
  · have t0 : (xs.length == ys.length) = true := by simpa using hl
    have t1 : ((xs.length : Int) != (ys.length : Int)) = false := by simp [hl]
    have HL := Lib.hid hl
    have H3 := Lib.hid h3
    have H3' := Lib.hid h3'
    clear hl h3 h3' ha hb
    go_enter Tryz.func29, Tryz.ntmps29
    go_wp2
    go_loopw [5] (fun i wr => ∃ k : Nat, k ≤ xs.length ∧ i = .int .i64 k ∧ Hid (xs.take k = ys.take k) ∧ Ext w wr) (fun i _ => xs.length - (intOf i).toNat)
    case atStart => exact ⟨0, Nat.zero_le _, rfl, by simp [Hid], Ext.refl _⟩
    case round =>
      obtain ⟨k, hk, rfl, hE, hx⟩ := hrel
      by_cases hlt : k < xs.length
      · obtain ⟨b, o, x, rfl, hxk, hc, hd⟩ := H3.out k hlt
        obtain ⟨b', o', y, rfl, hyk, hc', hd'⟩ := H3'.out k (by rw [← HL.out]; exact hlt)
        have hlt' : k < ys.length := by rw [← HL.out]; exact hlt
        have d0 := hx.cell hc
        have d1 := hx.cell hc'
        have d2 := hx.cell hd
        have d3 := hx.cell hd'
        have x2 : decide ((k : Int) < (xs.length : Int)) = true := by simpa using hlt
        have x3 : decide ((k : Int) < (ys.length : Int)) = true := by simpa using hlt'
        obtain ⟨x1, x2'⟩ := x
        obtain ⟨y1, y2⟩ := y
        simp only at d0 d1 d2 d3
        clear hc hc' hd hd'
        by_cases hxy : x1 = y1 ∧ x2' = y2
        · obtain ⟨rfl, rfl⟩ := hxy
          have hs := Lib.hid (take_eq_succ hE.out hxk.out hyk.out rfl)
          go_wp2
          go_quiet (fail)
          go_wp2
          exact ⟨⟨k + 1, by omega, by go_num, hs.out, hx.drewN _⟩, by simp [intOf]; omega⟩
        · have hne : xs ≠ ys := ne_of_at hxk.out hyk.out (fun e => hxy (by simpa using e))
          have hd : decide (xs = ys) = false := by simpa using hne
          have HD := Lib.hid hd
          clear hne hd
          by_cases e1 : x1 = y1
          · subst e1
            have e2 : ¬ x2' = y2 := fun e => hxy ⟨rfl, e⟩
            have t4 : (x2' == y2) = false := by simpa using e2
            clear hxy
            go_wp2
            go_quiet (fail)
            go_wp2
            go_ret
            exact ⟨by rw [HD.out]; rfl, hx.drewN _⟩
          · have t4 : (x1 == y1) = false := by simpa using e1
            clear hxy
            go_wp2
            go_quiet (fail)
            go_wp2
            go_ret
            exact ⟨by rw [HD.out]; rfl, hx.drewN _⟩
      · have hke : k = xs.length := by omega
        have he : xs = ys := by
          have := hE.out
          rwa [List.take_of_length_le (by omega), List.take_of_length_le (by have := HL.out; omega)] at this
        have hd : decide (xs = ys) = true := by simpa using he
        have x2 : decide ((k : Int) < (xs.length : Int)) = false := by simp; omega
        have HD := Lib.hid hd
        clear he hd hke
        go_wp2
        go_ret
        exact ⟨by rw [HD.out]; rfl, hx⟩
  · have hne : xs ≠ ys := fun e => hl (by rw [e])
    have hd : decide (xs = ys) = false := by simpa using hne
    have t0 : (xs.length == ys.length) = false := by simpa using hl
    have t1 : ((xs.length : Int) == (ys.length : Int)) = false := by rw [beq_eq_false_iff_ne]; omega
    have t2 : (xs.length != ys.length) = true := by simpa using hl
    have t3 : ((xs.length : Int) != (ys.length : Int)) = true := by rw [bne_iff_ne]; omega
    rw [hd]
    clear hne hd hl h3 h3' ha hb
    go_enter Tryz.func29, Tryz.ntmps29
    go_wp2
    go_ret
    exact ⟨rfl, Ext.refl _⟩
end Go.Proofs.YtjbeiclfggjbmaaGreatDoor
