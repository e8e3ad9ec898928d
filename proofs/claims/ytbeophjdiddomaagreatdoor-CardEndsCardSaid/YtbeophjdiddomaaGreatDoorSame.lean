/- What is asked of a search: agrees, least, greatest. -/
import Derived.Test.YtbeophjdiddomaaGreatDoorSearch
import Derived.Test.YtbeophjdiddomaaGreatDoorWeigh
import Derived.Deep.QuietTactic
import Derived.BigQuiet
import Derived.Laws.StructEq
namespace Go.Proofs.YtbeophjdiddomaaGreatDoor
open Go.RowKit

theorem agrees_any (x0 : Value) (a0 a1 : Option Addr) (n0 n1 c0 c1 : Nat) (w : World) :
    Calls Tryz.prog 41 #[.agg #[x0, .slice a0 n0 c0, .slice a1 n1 c1]] w fun e w' => e = .returned (.bool (decide (0 < n1))) ∧ Ext w w' := by
  go_enter Tryz.func41, Tryz.ntmps41
  go_wp2
  go_ret
  exact ⟨rfl, (Ext.refl _).alloc _⟩

/-- The least of the first k + 1. -/
def minT (x : Int) (l : List Int) (k : Nat) : Int := (l.take k).foldl min x
theorem minT_succ {x : Int} {l : List Int} {k : Nat} {y : Int} (h : l[k]? = some y) : minT x l (k + 1) = min (minT x l k) y := by
  unfold minT; rw [List.take_add_one, h]; simp
def maxT (x : Int) (l : List Int) (k : Nat) : Int := (l.take k).foldl max x
theorem maxT_succ {x : Int} {l : List Int} {k : Nat} {y : Int} (h : l[k]? = some y) : maxT x l (k + 1) = max (maxT x l k) y := by
  unfold maxT; rw [List.take_add_one, h]; simp

set_option maxHeartbeats 1000000 in
theorem minN_any (v : Value) (x : Int) (l : List Int) (w : World) (hv : IntsAt w v (x :: l)) :
    Calls Tryz.prog 110 #[v] w fun e w' => e = .returned (.int .i64 (minT x l l.length)) ∧ Ext w w' := by
  obtain ⟨a, c, rfl, h1, h2, h3⟩ := hv.open
  obtain ⟨b0, o0, n0, rfl, hn0, hc0⟩ := h3 0 (by simp)
  have HC := Lib.hid h3
  have hx : n0 = x := by have := hn0.out; simpa using this.symm
  subst hx
  clear h3 hn0
  simp only [Nat.add_zero] at hc0
  simp only [List.length_cons] at h1 hv ⊢
  have x0 : decide ((l.length : Int) + 1 < 1) = false := by simp; omega
  go_enter Tryz.func110, Tryz.ntmps110
  go_wp2
  go_loopw [3, 4] (fun m i wr => ∃ k : Nat, k ≤ l.length ∧ i = .int .i64 ((k : Int) + 1) ∧ m = .int .i64 (minT n0 l k) ∧ wr = w) (fun _ i _ => l.length + 1 - (intOf i).toNat)
  case atStart => exact ⟨0, Nat.zero_le _, rfl, rfl, rfl⟩
  case round =>
    obtain ⟨k, hk, rfl, rfl, rfl⟩ := hrel
    by_cases hlt : k < l.length
    · obtain ⟨b1, o1, y, e1, hy, hc⟩ := HC.out (k + 1) (by simp; omega)
      cases e1
      have hy' : l[k]? = some y := by simpa using hy.out
      have x1 : decide ((k : Int) + 1 < (l.length : Int) + 1) = true := by simp; omega
      have x2 : decide ((k : Int) < (l.length : Int)) = true := by simpa using hlt
      have HS := Lib.hid (minT_succ (x := n0) hy')
      clear hy hy'
      go_wp2
      exact ⟨⟨k + 1, by omega, by go_num, by rw [HS.out], trivial⟩, by simp [intOf]; omega⟩
    · have hke : k = l.length := by omega
      subst hke
      have x1 : decide ((l.length : Int) + 1 < (l.length : Int) + 1) = false := by simp
      go_wp2
      go_ret
      exact ⟨rfl, Ext.refl _⟩
set_option maxHeartbeats 1000000 in
theorem maxN_any (v : Value) (x : Int) (l : List Int) (w : World) (hv : IntsAt w v (x :: l)) :
    Calls Tryz.prog 111 #[v] w fun e w' => e = .returned (.int .i64 (maxT x l l.length)) ∧ Ext w w' := by
  obtain ⟨a, c, rfl, h1, h2, h3⟩ := hv.open
  obtain ⟨b0, o0, n0, rfl, hn0, hc0⟩ := h3 0 (by simp)
  have HC := Lib.hid h3
  have hx : n0 = x := by have := hn0.out; simpa using this.symm
  subst hx
  clear h3 hn0
  simp only [Nat.add_zero] at hc0
  simp only [List.length_cons] at h1 hv ⊢
  have x0 : decide ((l.length : Int) + 1 < 1) = false := by simp; omega
  go_enter Tryz.func111, Tryz.ntmps111
  go_wp2
  go_loopw [3, 4] (fun m i wr => ∃ k : Nat, k ≤ l.length ∧ i = .int .i64 ((k : Int) + 1) ∧ m = .int .i64 (maxT n0 l k) ∧ wr = w) (fun _ i _ => l.length + 1 - (intOf i).toNat)
  case atStart => exact ⟨0, Nat.zero_le _, rfl, rfl, rfl⟩
  case round =>
    obtain ⟨k, hk, rfl, rfl, rfl⟩ := hrel
    by_cases hlt : k < l.length
    · obtain ⟨b1, o1, y, e1, hy, hc⟩ := HC.out (k + 1) (by simp; omega)
      cases e1
      have hy' : l[k]? = some y := by simpa using hy.out
      have x1 : decide ((k : Int) + 1 < (l.length : Int) + 1) = true := by simp; omega
      have x2 : decide ((k : Int) < (l.length : Int)) = true := by simpa using hlt
      have HS := Lib.hid (maxT_succ (x := n0) hy')
      clear hy hy'
      go_wp2
      exact ⟨⟨k + 1, by omega, by go_num, by rw [HS.out], trivial⟩, by simp [intOf]; omega⟩
    · have hke : k = l.length := by omega
      subst hke
      have x1 : decide ((l.length : Int) + 1 < (l.length : Int) + 1) = false := by simp
      go_wp2
      go_ret
      exact ⟨rfl, Ext.refl _⟩
theorem least_any (v : Value) (x : Int) (l : List Int) (w : World) (hv : IntsAt w v (x :: l)) :
    Calls Tryz.prog 83 #[v] w fun e w' => e = .returned (.int .i64 (minT x l l.length)) ∧ Ext w w' := by
  have HM := Lib.hid (minN_any v x l w hv)
  clear hv
  go_enter Tryz.func83, Tryz.ntmps83
  go_wp2_with (go_at_call 110; refine HM.out.mono ?_; rintro e w1 ⟨rfl, hx1⟩)
  go_ret
  exact ⟨rfl, hx1⟩
theorem greatest_any (v : Value) (x : Int) (l : List Int) (w : World) (hv : IntsAt w v (x :: l)) :
    Calls Tryz.prog 84 #[v] w fun e w' => e = .returned (.int .i64 (maxT x l l.length)) ∧ Ext w w' := by
  have HM := Lib.hid (maxN_any v x l w hv)
  clear hv
  go_enter Tryz.func84, Tryz.ntmps84
  go_wp2_with (go_at_call 111; refine HM.out.mono ?_; rintro e w1 ⟨rfl, hx1⟩)
  go_ret
  exact ⟨rfl, hx1⟩

set_option maxRecDepth 100000 in
set_option maxHeartbeats 1000000 in
theorem span_any (v : Value) (x : Int) (l : List Int) (w : World) (hv : IntsAt w v (x :: l)) :
    Calls Tryz.prog 43 #[v] w fun e w' => e = .returned (.agg #[.int .i64 (minT x l l.length), .int .i64 (maxT x l l.length)]) ∧ Ext w w' := by
  have HV := Lib.hid hv
  clear hv
  have hi0 : ∀ wq, (Instr.index 136 (.agg #[.func (.func 83) #[v] #[], .func (.func 84) #[v] #[]]) (.int .i64 0)).run Tryz.prog wq = .ok (.func (.func 83) #[v] #[]) wq := fun wq => by rfl
  have hi1 : ∀ wq, (Instr.index 136 (.agg #[.func (.func 83) #[v] #[], .func (.func 84) #[v] #[]]) (.int .i64 1)).run Tryz.prog wq = .ok (.func (.func 84) #[v] #[]) wq := fun wq => by rfl
  go_enter Tryz.func43, Tryz.ntmps43
  go_wp2
  go_loopw [11] (fun i wr => ∃ (k : Nat) (m1 m2 : Int), k ≤ 2 ∧ i = .int .i64 k ∧ wr.cell? ⟨w.heap.size + 1, 0, none⟩ = some (.int .i64 m1) ∧ wr.cell? ⟨w.heap.size + 1, 1, none⟩ = some (.int .i64 m2) ∧ wr.cell? ⟨w.heap.size, 0, none⟩ = some (.int .i64 0) ∧ wr.cell? ⟨w.heap.size, 1, none⟩ = some (.int .i64 0) ∧ (∀ j, wr.frozen? ⟨w.heap.size, j, none⟩ = false ∧ wr.frozen? ⟨w.heap.size + 1, j, none⟩ = false) ∧ (1 ≤ k → m1 = minT x l l.length) ∧ (2 ≤ k → m2 = maxT x l l.length) ∧ Ext w wr) (fun i _ => 2 - (intOf i).toNat)
  case atStart => exact ⟨0, 0, 0, by omega, rfl, by go_simp, by go_simp, by go_simp, by go_simp, fun j => ⟨by go_simp, by go_simp⟩, fun h => by omega, fun h => by omega, ((Ext.refl _).alloc _).alloc _⟩
  case round =>
    obtain ⟨k, m1, m2, hk, rfl, c0, c1, c2, c3, hf, hm1, hm2, hx⟩ := hrel
    obtain ⟨f0, f1⟩ := hf 0
    obtain ⟨f2, f3⟩ := hf 1
    rcases (show k = 0 ∨ k = 1 ∨ k = 2 by omega) with rfl | rfl | rfl
    · have HL := Lib.hid (least_any v x l wr (HV.out.ext hx))
      go_wp2_with (go_at_call 83; refine HL.out.mono ?_; rintro e w1 ⟨rfl, hx1⟩; have d0 := hx1.cell c0; have g0 := (hx1.frozen (lt_of_cell c0)).trans f1)
      have l0 : w.heap.size < wr.heap.size := lt_of_cell c2
      have l1 : w.heap.size + 1 < wr.heap.size := lt_of_cell c0
      exact ⟨⟨1, _, _, by omega, rfl, World.cell?_setCell_same w1 _ _ d0, by rw [World.cell?_setCell_other (h := by simp)]; exact hx1.cell c1, by rw [World.cell?_setCell_other (h := by simp)]; exact hx1.cell c2, by rw [World.cell?_setCell_other (h := by simp)]; exact hx1.cell c3, fun j => ⟨by rw [World.frozen?_setCell]; exact (hx1.frozen l0).trans (hf j).1, by rw [World.frozen?_setCell]; exact (hx1.frozen l1).trans (hf j).2⟩, fun _ => rfl, fun h => by omega, (hx.trans hx1).setCell (by simp) _⟩, by simp [intOf]⟩
    · have HL := Lib.hid (greatest_any v x l wr (HV.out.ext hx))
      go_wp2_with (go_at_call 84; refine HL.out.mono ?_; rintro e w1 ⟨rfl, hx1⟩; have d0 := hx1.cell c1; have g0 := (hx1.frozen (lt_of_cell c1)).trans f3)
      have l0 : w.heap.size < wr.heap.size := lt_of_cell c2
      have l1 : w.heap.size + 1 < wr.heap.size := lt_of_cell c0
      exact ⟨⟨2, _, _, by omega, rfl, by rw [World.cell?_setCell_other (h := by simp)]; exact hx1.cell c0, World.cell?_setCell_same w1 _ _ d0, by rw [World.cell?_setCell_other (h := by simp)]; exact hx1.cell c2, by rw [World.cell?_setCell_other (h := by simp)]; exact hx1.cell c3, fun j => ⟨by rw [World.frozen?_setCell]; exact (hx1.frozen l0).trans (hf j).1, by rw [World.frozen?_setCell]; exact (hx1.frozen l1).trans (hf j).2⟩, fun _ => hm1 (by omega), fun _ => rfl, (hx.trans hx1).setCell (by simp) _⟩, by simp [intOf]⟩
    · go_wp2
      have e1 := hm1 (by omega)
      have e2 := hm2 (by omega)
      subst e1 e2
      have hE : Ext w ((wr.setCell ⟨w.heap.size, 0, none⟩ (.int .i64 (minT x l l.length))).setCell ⟨w.heap.size, 1, none⟩ (.int .i64 (maxT x l l.length))) := (hx.setCell (by simp) _).setCell (by simp) _
      have d0 : ((wr.setCell ⟨w.heap.size, 0, none⟩ (.int .i64 (minT x l l.length))).setCell ⟨w.heap.size, 1, none⟩ (.int .i64 (maxT x l l.length))).cell? ⟨w.heap.size, 0, none⟩ = some (.int .i64 (minT x l l.length)) := by
        rw [World.cell?_setCell_other (h := by simp)]; exact World.cell?_setCell_same wr _ _ c2
      have d1 : ((wr.setCell ⟨w.heap.size, 0, none⟩ (.int .i64 (minT x l l.length))).setCell ⟨w.heap.size, 1, none⟩ (.int .i64 (maxT x l l.length))).cell? ⟨w.heap.size, 1, none⟩ = some (.int .i64 (maxT x l l.length)) :=
        World.cell?_setCell_same _ _ _ (by rw [World.cell?_setCell_other (h := by simp)]; exact c3)
      generalize ((wr.setCell ⟨w.heap.size, 0, none⟩ (.int .i64 (minT x l l.length))).setCell ⟨w.heap.size, 1, none⟩ (.int .i64 (maxT x l l.length))) = W3 at hE d0 d1 ⊢
      refine bodyPost_ret (v := .agg #[.int .i64 (minT x l l.length), .int .i64 (maxT x l l.length)]) (by simp [results, Tryz.f43, go_sem, d0, d1]) rfl ⟨rfl, hE⟩
end Go.Proofs.YtbeophjdiddomaaGreatDoor

/- Agree, and what is asked of a round. -/
namespace Go.Proofs.YtbeophjdiddomaaGreatDoor
open Go.RowKit

theorem FoundAt.open {B : Nat} {W : World} {v : Value} {n : Nat} {lss : List (List Int)} (h : FoundAt B W v n lss) (hl : lss.length = n + 2) : ∃ (hb : Nat) (a0 a1 : Option Addr) (c0 c1 : Nat) (xs ys : List Int), v = .agg #[.slice (some ⟨hb, 0, none⟩) n n, .slice a0 xs.length c0, .slice a1 ys.length c1] ∧ lss[n]? = some xs ∧ lss[n + 1]? = some ys ∧
    IntsAt W (.slice a0 xs.length c0) xs ∧ IntsAt W (.slice a1 ys.length c1) ys ∧ ∀ i, i < n → ∃ u zs, W.cell? ⟨hb, i, none⟩ = some u ∧ lss[i]? = some zs ∧ IntsAt W u zs := by
  obtain ⟨hb, vals, ⟨h1, _, _⟩, rfl, h3, h4, h5⟩ := h
  have k0 : vals[n]? = some (vals.getD n undef) := by rw [List.getD_eq_getElem?_getD, List.getElem?_eq_getElem (show n < vals.length by omega)]; rfl
  have k1 : vals[n + 1]? = some (vals.getD (n + 1) undef) := by rw [List.getD_eq_getElem?_getD, List.getElem?_eq_getElem (show n + 1 < vals.length by omega)]; rfl
  have j0 : lss[n]? = some (lss[n]'(by omega)) := List.getElem?_eq_getElem (by omega)
  have j1 : lss[n + 1]? = some (lss[n + 1]'(by omega)) := List.getElem?_eq_getElem (by omega)
  have i0 := h5 _ _ _ k0 j0
  have i1 := h5 _ _ _ k1 j1
  obtain ⟨a0, c0, e0, _⟩ := i0.open
  obtain ⟨a1, c1, e1, _⟩ := i1.open
  rw [e0] at i0 ⊢
  rw [e1] at i1 ⊢
  refine ⟨hb, a0, a1, c0, c1, _, _, rfl, j0, j1, i0, i1, fun i hi => ?_⟩
  have ki : vals[i]? = some (vals[i]'(by omega)) := List.getElem?_eq_getElem (by omega)
  have ji : lss[i]? = some (lss[i]'(by omega)) := List.getElem?_eq_getElem (by omega)
  exact ⟨_, _, (h4 i hi).trans ki, ji, h5 _ _ _ ki ji⟩
theorem FoundAt.setCell {B : Nat} {W : World} {v : Value} {n : Nat} {lss : List (List Int)} (h : FoundAt B W v n lss) {b i : Nat} {u : Value} (hb : b < B) : FoundAt B (W.setCell ⟨b, i, none⟩ u) v n lss := by
  obtain ⟨hb0, vals, ⟨h1, h1', h1''⟩, h2, h3, h4, h5⟩ := h
  refine ⟨hb0, vals, ⟨h1, h1', h1''⟩, h2, h3, fun j hj => ?_, fun j u' xs hu hx => ?_⟩
  · rw [World.cell?_setCell_other (h := fun e => by have := congrArg Addr.block e; simp only at this; omega)]; exact h4 j hj
  · obtain ⟨a, c, hv, r1, r2, r0, r3⟩ := h5 j u' xs hu hx
    refine ⟨a, c, hv, r1, r2, r0, fun k y hk => ?_⟩
    obtain ⟨b', o', ha, hc⟩ := r3 k y hk
    have hge := h1'' u' (List.mem_of_getElem? hu) b' (by rw [hv, ha]; rfl)
    exact ⟨b', o', ha, by rw [World.cell?_setCell_other (h := fun e => by have := congrArg Addr.block e; simp only at this; omega)]; exact hc⟩
theorem FoundAt.base {B B' : Nat} {W : World} {v : Value} {n : Nat} {lss : List (List Int)} (h : FoundAt B W v n lss) (hb : B' ≤ B) : FoundAt B' W v n lss := by
  obtain ⟨hb0, vals, ⟨h1, h1', h1''⟩, h2⟩ := h
  exact ⟨hb0, vals, ⟨h1, Nat.le_trans hb h1', fun u hu g hg => Nat.le_trans hb (h1'' u hu g hg)⟩, h2⟩
theorem col_some {n : Nat} {lss : List (List Int)} {H : Nat → Int → Prop} {A C : Int → Prop} {ys : List Int} (h : Col n lss H A C) (hy : lss[n + 1]? = some ys) : 0 < ys.length ↔ ∃ m, C m := by
  obtain ⟨zs, h1, h2⟩ := h.c
  rw [hy] at h1; cases h1
  constructor
  · intro hl; exact ⟨ys[0], (h2 _).1 (List.getElem_mem hl)⟩
  · rintro ⟨m, hm⟩; exact List.length_pos_of_mem ((h2 m).2 hm)
def AgreeRes (r : Round) (w : World) (e : Ending) (w' : World) : Prop := ∃ (b : Bool) (err : Int), e = .returned (.tuple #[.bool b, .int .i64 err]) ∧ Ext w w' ∧ (if isRoundB r = true then err = 0 ∧ (b = true ↔ ∃ m, buttonR r (-1) (r.hi + 1) m) else b = false ∧ err = 2)
set_option maxHeartbeats 1000000 in
theorem agree_any (v : Value) (r : Round) (w : World) (hr : RoundAt w v r) :
    Calls Tryz.prog 11 #[v] w (AgreeRes r w) := by
  obtain ⟨hv, rfl, hh⟩ := hr
  have hr' : RoundAt w (.agg (r.cells hv).toArray) r := ⟨hv, rfl, hh⟩
  have HR := Lib.hid (fun w1 (hx : Ext w w1) => isRound_any _ r w1 (hr'.ext hx))
  have HS := Lib.hid (fun w1 (hx : Ext w w1) (hb : isRoundB r = true) => search_any _ r (-1) w1 (hr'.ext hx) (roundB_of hb))
  obtain ⟨a, c, rfl, _⟩ := hh.open
  unfold Round.cells at *
  clear hr' hh
  cases hb : isRoundB r with
  | false =>
    rw [hb] at HR
    go_enter Tryz.func11, Tryz.ntmps11
    go_wp2_with (go_at_call 39; refine (HR.out _ ((Ext.refl w).alloc _)).mono ?_; rintro e w1 ⟨rfl, hx1⟩)
    all_goals first
      | (go_ret2; exact ⟨false, 2, rfl, ((Ext.refl w).alloc _).trans hx1, by rw [if_neg (by rw [hb]; simp)]; exact ⟨rfl, rfl⟩⟩)
      | (exfalso; simp_all)
  | true =>
    rw [hb] at HR
    go_enter Tryz.func11, Tryz.ntmps11
    go_wp2_with (first
      | (go_at_call 39; refine (HR.out _ ((Ext.refl w).alloc _)).mono ?_; rintro e w1 ⟨rfl, hx1⟩; have hx1' := ((Ext.refl w).alloc _).trans hx1; have z0 := hx1.cell (a := ⟨w.heap.size, 0, none⟩) (v := .int .i64 r.per) (by go_simp); have z1 := hx1.cell (a := ⟨w.heap.size, 1, none⟩) (v := .int .i64 r.lo) (by go_simp); have z2 := hx1.cell (a := ⟨w.heap.size, 2, none⟩) (v := .int .i64 r.hi) (by go_simp); have z3 := hx1.cell (a := ⟨w.heap.size, 3, none⟩) (v := .int .i64 r.card) (by go_simp); have z4 := hx1.cell (a := ⟨w.heap.size, 4, none⟩) (v := .int .i64 r.slack) (by go_simp); have z5 := hx1.cell (a := ⟨w.heap.size, 5, none⟩) (v := .slice a r.houses.length c) (by go_simp); have z6 := hx1.cell (a := ⟨w.heap.size, 6, none⟩) (v := .int .i64 r.all) (by go_simp); have z7 := hx1.cell (a := ⟨w.heap.size, 7, none⟩) (v := .int .i64 r.off) (by go_simp))
      | (go_at_call 40; refine (HS.out _ hx1' hb).mono ?_; rintro e w2 ⟨v2, lss, rfl, hx2, hl2, hf2, hc2⟩; obtain ⟨fb, a0, a1, c0, c1, xs, ys, rfl, q0, q1, q2, q3, q4⟩ := hf2.open hl2)
      | (go_at_call 41; refine (agrees_any _ _ _ _ _ _ _ _).mono ?_; rintro e w3 ⟨rfl, hx3⟩))
    go_ret2
    exact ⟨_, 0, rfl, (hx1'.trans hx2).trans hx3, by rw [if_pos hb]; exact ⟨rfl, by rw [decide_eq_true_eq]; exact col_some hc2 q1⟩⟩
end Go.Proofs.YtbeophjdiddomaaGreatDoor

/- asked: the search, if the round is one. -/
namespace Go.Proofs.YtbeophjdiddomaaGreatDoor
open Go.RowKit

/-- A box of three cells, and what a store into it asks for. -/
theorem box3 {W : World} {b : Nat} {x y z : Value} {t : TypeId} (h : W.heap[b]? = some (.cells #[x, y, z] t (0, 0))) (p q : Value) :
    (W.cell? ⟨b, 0, none⟩ = some x ∧ W.cell? ⟨b, 1, none⟩ = some y ∧ W.cell? ⟨b, 2, none⟩ = some z) ∧ (W.frozen? ⟨b, 0, none⟩ = false ∧ W.frozen? ⟨b, 1, none⟩ = false ∧ W.frozen? ⟨b, 2, none⟩ = false) ∧
    (W.setCell ⟨b, 0, none⟩ p).cell? ⟨b, 1, none⟩ = some y ∧ (W.setCell ⟨b, 0, none⟩ p).frozen? ⟨b, 1, none⟩ = false ∧
    ((W.setCell ⟨b, 0, none⟩ p).setCell ⟨b, 1, none⟩ q).cell? ⟨b, 2, none⟩ = some z ∧ ((W.setCell ⟨b, 0, none⟩ p).setCell ⟨b, 1, none⟩ q).frozen? ⟨b, 2, none⟩ = false := by
  have f0 : W.cell? ⟨b, 0, none⟩ = some x := by simp [World.cell?, h]
  have f1 : W.cell? ⟨b, 1, none⟩ = some y := by simp [World.cell?, h]
  have f2 : W.cell? ⟨b, 2, none⟩ = some z := by simp [World.cell?, h]
  have g0 : W.frozen? ⟨b, 0, none⟩ = false := by simp [World.frozen?, h]
  have g1 : W.frozen? ⟨b, 1, none⟩ = false := by simp [World.frozen?, h]
  have g2 : W.frozen? ⟨b, 2, none⟩ = false := by simp [World.frozen?, h]
  refine ⟨⟨f0, f1, f2⟩, ⟨g0, g1, g2⟩, ?_, ?_, ?_, ?_⟩
  · rw [World.cell?_setCell_other (h := by simp)]; exact f1
  · rw [World.frozen?_setCell]; exact g1
  · rw [World.cell?_setCell_other (h := by simp), World.cell?_setCell_other (h := by simp)]; exact f2
  · rw [World.frozen?_setCell, World.frozen?_setCell]; exact g2
theorem box3_end {W : World} {b : Nat} {x y z : Value} {t : TypeId} (h : W.heap[b]? = some (.cells #[x, y, z] t (0, 0))) (p q s : Value) :
    (((W.setCell ⟨b, 0, none⟩ p).setCell ⟨b, 1, none⟩ q).setCell ⟨b, 2, none⟩ s).heap[b]? = some (.cells #[p, q, s] t (0, 0)) := by
  have s1 := setCell_block (i := 0) (v := p) h
  have s2 := setCell_block (i := 1) (v := q) s1
  exact setCell_block (i := 2) (v := s) s2
theorem asked_results {tmps : Array Value} {W : World} {b : Nat} {p q s : Value} {err : Value} (hp : tmps.getD 4 undef = .pointer (some ⟨b, 0, none⟩)) (he : tmps.getD 5 undef = err) (h : W.heap[b]? = some (.cells #[p, q, s] 82 (0, 0))) :
    (results Tryz.f42 tmps).run Tryz.prog W = .ok (.tuple #[.agg #[p, q, s], err]) W := by
  have f0 : W.cell? ⟨b, 0, none⟩ = some p := by simp [World.cell?, h]
  have f1 : W.cell? ⟨b, 1, none⟩ = some q := by simp [World.cell?, h]
  have f2 : W.cell? ⟨b, 2, none⟩ = some s := by simp [World.cell?, h]
  rw [results_cell_tmp rfl, hp, he]
  simp [go_sem, f0, f1, f2]
abbrev noFound : Value := .agg #[.slice none 0 0, .slice none 0 0, .slice none 0 0]
def AskedRes (r : Round) (fine : Bool) (w : World) (e : Ending) (w' : World) : Prop := ∃ (v : Value) (err : Int), e = .returned (.tuple #[v, .int .i64 err]) ∧ Ext w w' ∧
  (if isRoundB r = true ∧ fine = true then
    ((∃ m, buttonR r (-1) (r.hi + 1) m) → err = 0 ∧ ∃ lss, lss.length = r.houses.length + 2 ∧ FoundAt w.heap.size w' v r.houses.length lss ∧ Col r.houses.length lss (houseR r (-1) (r.hi + 1)) (allR r (-1) (r.hi + 1)) (buttonR r (-1) (r.hi + 1))) ∧
    ((¬ ∃ m, buttonR r (-1) (r.hi + 1) m) → err = 7 ∧ v = noFound)
  else v = noFound ∧ err = 2)
set_option maxHeartbeats 2000000 in
theorem asked_any (v : Value) (r : Round) (fine : Bool) (w : World) (hr : RoundAt w v r) :
    Calls Tryz.prog 42 #[v, .bool fine] w (AskedRes r fine w) := by
  obtain ⟨hv, rfl, hh⟩ := hr
  have hr' : RoundAt w (.agg (r.cells hv).toArray) r := ⟨hv, rfl, hh⟩
  have HR := Lib.hid (fun w1 (hx : Ext w w1) => isRound_any _ r w1 (hr'.ext hx))
  have HS := Lib.hid (fun w1 (hx : Ext w w1) (hb : isRoundB r = true) => search_any _ r (-1) w1 (hr'.ext hx) (roundB_of hb))
  obtain ⟨a, c, rfl, _⟩ := hh.open
  unfold Round.cells at *
  clear hr' hh
  cases hb : isRoundB r with
  | false =>
    rw [hb] at HR
    go_enter Tryz.func42, Tryz.ntmps42
    go_wp2_with (go_at_call 39; refine (HR.out _ (((Ext.refl w).alloc _).alloc _)).mono ?_; rintro e w1 ⟨rfl, hx1⟩; have hbx := (hx1.block (by simp)).trans (two_new w _ _).2; obtain ⟨⟨f0, f1, f2⟩, ⟨g0, g1, g2⟩, k1, k2, k3, k4⟩ := box3 hbx (.slice none 0 0) (.slice none 0 0))
    have hend := box3_end hbx (.slice none 0 0) (.slice none 0 0) (.slice none 0 0)
    refine bodyPost_ret (asked_results rfl rfl hend) rfl ⟨_, 2, rfl, ((((((Ext.refl w).alloc _).alloc _).trans hx1).setCell (by simp) _).setCell (by simp) _).setCell (by simp) _, by rw [if_neg (by rw [hb]; simp)]; exact ⟨rfl, rfl⟩⟩
  | true =>
    rw [hb] at HR
    cases fine with
    | false =>
      go_enter Tryz.func42, Tryz.ntmps42
      go_wp2_with (go_at_call 39; refine (HR.out _ (((Ext.refl w).alloc _).alloc _)).mono ?_; rintro e w1 ⟨rfl, hx1⟩; have hbx := (hx1.block (by simp)).trans (two_new w _ _).2; obtain ⟨⟨f0, f1, f2⟩, ⟨g0, g1, g2⟩, k1, k2, k3, k4⟩ := box3 hbx (.slice none 0 0) (.slice none 0 0))
      have hend := box3_end hbx (.slice none 0 0) (.slice none 0 0) (.slice none 0 0)
      refine bodyPost_ret (asked_results rfl rfl hend) rfl ⟨_, 2, rfl, ((((((Ext.refl w).alloc _).alloc _).trans hx1).setCell (by simp) _).setCell (by simp) _).setCell (by simp) _, by rw [if_neg (by simp)]; exact ⟨rfl, rfl⟩⟩
    | true =>
      by_cases hm : ∃ m, buttonR r (-1) (r.hi + 1) m
      · go_enter Tryz.func42, Tryz.ntmps42
        go_wp2_with (first
          | (go_at_call 39; refine (HR.out _ (((Ext.refl w).alloc _).alloc _)).mono ?_; rintro e w1 ⟨rfl, hx1⟩; have hbx := (hx1.block (by simp)).trans (two_new w _ _).2; obtain ⟨⟨f0, f1, f2⟩, ⟨g0, g1, g2⟩, k1, k2, k3, k4⟩ := box3 hbx (.slice none 0 0) (.slice none 0 0); have hx1' := (((Ext.refl w).alloc _).alloc _).trans hx1; have z0 := hx1.cell (a := ⟨w.heap.size, 0, none⟩) (v := .int .i64 r.per) (by go_simp); have z1 := hx1.cell (a := ⟨w.heap.size, 1, none⟩) (v := .int .i64 r.lo) (by go_simp); have z2 := hx1.cell (a := ⟨w.heap.size, 2, none⟩) (v := .int .i64 r.hi) (by go_simp); have z3 := hx1.cell (a := ⟨w.heap.size, 3, none⟩) (v := .int .i64 r.card) (by go_simp); have z4 := hx1.cell (a := ⟨w.heap.size, 4, none⟩) (v := .int .i64 r.slack) (by go_simp); have z5 := hx1.cell (a := ⟨w.heap.size, 5, none⟩) (v := .slice a r.houses.length c) (by go_simp); have z6 := hx1.cell (a := ⟨w.heap.size, 6, none⟩) (v := .int .i64 r.all) (by go_simp); have z7 := hx1.cell (a := ⟨w.heap.size, 7, none⟩) (v := .int .i64 r.off) (by go_simp))
          | (go_at_call 40; refine (HS.out _ hx1' hb).mono ?_; rintro e w2 ⟨v2, lss, rfl, hx2, hl2, hf2, hc2⟩; obtain ⟨fb, a0, a1, c0, c1, xs, ys, rfl, q0, q1, q2, q3, q4⟩ := hf2.open hl2; have hd : decide (0 < ys.length) = true := by rw [decide_eq_true_eq]; exact (col_some hc2 q1).2 hm)
          | (go_at_call 41; refine (agrees_any _ _ _ _ _ _ _ _).mono ?_; rintro e w3 ⟨rfl, hx3⟩; have hx13 := (hx2.alloc _).trans hx3; have hbx3 := (hx13.block (Array.getElem?_eq_some_iff.1 hbx).1).trans hbx; have d0 := hx3.cell (a := ⟨w2.heap.size, 0, none⟩) (v := .slice (some ⟨fb, 0, none⟩) r.houses.length r.houses.length) (by go_simp); have d1 := hx3.cell (a := ⟨w2.heap.size, 1, none⟩) (v := .slice a0 xs.length c0) (by go_simp); have d2 := hx3.cell (a := ⟨w2.heap.size, 2, none⟩) (v := .slice a1 ys.length c1) (by go_simp); clear f0 f1 f2 g0 g1 g2 k1 k2 k3 k4 z0 z1 z2 z3 z4 z5 z6 z7; obtain ⟨⟨f0, f1, f2⟩, ⟨g0, g1, g2⟩, k1, k2, k3, k4⟩ := box3 hbx3 (.slice none 0 0) (.slice none 0 0); obtain ⟨_, _, n1, n2, n3, n4⟩ := box3 hbx3 (.slice (some ⟨fb, 0, none⟩) r.houses.length r.houses.length) (.slice a0 xs.length c0)))
        have hend := box3_end hbx3 (.slice (some ⟨fb, 0, none⟩) r.houses.length r.houses.length) (.slice a0 xs.length c0) (.slice a1 ys.length c1)
        have hlt := (Array.getElem?_eq_some_iff.1 hbx).1
        have hff := ((((hf2.ext (((Ext.refl w2).alloc _).trans hx3)).setCell (b := w.heap.size + 1) (i := 0) (u := .slice (some ⟨fb, 0, none⟩) r.houses.length r.houses.length) hlt).setCell (b := w.heap.size + 1) (i := 1) (u := .slice a0 xs.length c0) hlt).setCell (b := w.heap.size + 1) (i := 2) (u := .slice a1 ys.length c1) hlt).base (B' := w.heap.size) (by omega)
        refine bodyPost_ret (asked_results rfl rfl hend) rfl ⟨_, 0, rfl, (((hx1'.trans hx13).setCell (by simp) _).setCell (by simp) _).setCell (by simp) _, by rw [if_pos ⟨hb, rfl⟩]; exact ⟨fun _ => ⟨rfl, lss, hl2, hff, hc2⟩, fun h => absurd hm h⟩⟩
      · go_enter Tryz.func42, Tryz.ntmps42
        go_wp2_with (first
          | (go_at_call 39; refine (HR.out _ (((Ext.refl w).alloc _).alloc _)).mono ?_; rintro e w1 ⟨rfl, hx1⟩; have hbx := (hx1.block (by simp)).trans (two_new w _ _).2; obtain ⟨⟨f0, f1, f2⟩, ⟨g0, g1, g2⟩, k1, k2, k3, k4⟩ := box3 hbx (.slice none 0 0) (.slice none 0 0); have hx1' := (((Ext.refl w).alloc _).alloc _).trans hx1; have z0 := hx1.cell (a := ⟨w.heap.size, 0, none⟩) (v := .int .i64 r.per) (by go_simp); have z1 := hx1.cell (a := ⟨w.heap.size, 1, none⟩) (v := .int .i64 r.lo) (by go_simp); have z2 := hx1.cell (a := ⟨w.heap.size, 2, none⟩) (v := .int .i64 r.hi) (by go_simp); have z3 := hx1.cell (a := ⟨w.heap.size, 3, none⟩) (v := .int .i64 r.card) (by go_simp); have z4 := hx1.cell (a := ⟨w.heap.size, 4, none⟩) (v := .int .i64 r.slack) (by go_simp); have z5 := hx1.cell (a := ⟨w.heap.size, 5, none⟩) (v := .slice a r.houses.length c) (by go_simp); have z6 := hx1.cell (a := ⟨w.heap.size, 6, none⟩) (v := .int .i64 r.all) (by go_simp); have z7 := hx1.cell (a := ⟨w.heap.size, 7, none⟩) (v := .int .i64 r.off) (by go_simp))
          | (go_at_call 40; refine (HS.out _ hx1' hb).mono ?_; rintro e w2 ⟨v2, lss, rfl, hx2, hl2, hf2, hc2⟩; obtain ⟨fb, a0, a1, c0, c1, xs, ys, rfl, q0, q1, q2, q3, q4⟩ := hf2.open hl2; have hd : decide (0 < ys.length) = false := by rw [decide_eq_false_iff_not]; exact fun h => hm ((col_some hc2 q1).1 h))
          | (go_at_call 41; refine (agrees_any _ _ _ _ _ _ _ _).mono ?_; rintro e w3 ⟨rfl, hx3⟩; have hx13 := (hx2.alloc _).trans hx3; have hbx3 := (hx13.block (Array.getElem?_eq_some_iff.1 hbx).1).trans hbx; have d0 := hx3.cell (a := ⟨w2.heap.size, 0, none⟩) (v := .slice (some ⟨fb, 0, none⟩) r.houses.length r.houses.length) (by go_simp); have d1 := hx3.cell (a := ⟨w2.heap.size, 1, none⟩) (v := .slice a0 xs.length c0) (by go_simp); have d2 := hx3.cell (a := ⟨w2.heap.size, 2, none⟩) (v := .slice a1 ys.length c1) (by go_simp); clear f0 f1 f2 g0 g1 g2 k1 k2 k3 k4 z0 z1 z2 z3 z4 z5 z6 z7; obtain ⟨⟨f0, f1, f2⟩, ⟨g0, g1, g2⟩, k1, k2, k3, k4⟩ := box3 hbx3 (.slice none 0 0) (.slice none 0 0); obtain ⟨_, _, n1, n2, n3, n4⟩ := box3 hbx3 (.slice (some ⟨fb, 0, none⟩) r.houses.length r.houses.length) (.slice a0 xs.length c0)))
        have hend := box3_end hbx3 (.slice none 0 0) (.slice none 0 0) (.slice none 0 0)
        refine bodyPost_ret (asked_results rfl rfl hend) rfl ⟨_, 7, rfl, (((hx1'.trans hx13).setCell (by simp) _).setCell (by simp) _).setCell (by simp) _, by rw [if_pos ⟨hb, rfl⟩]; exact ⟨fun h => absurd h hm, fun _ => ⟨rfl, rfl⟩⟩⟩
end Go.Proofs.YtbeophjdiddomaaGreatDoor

/- The reference's comparisons: Same, SamePlan, SameSpans. -/
namespace Go.Proofs.YtbeophjdiddomaaGreatDoor
open Go.RowKit

theorem take_eq_succ {α : Type} {xs ys : List α} {k : Nat} {x y : α} (h : xs.take k = ys.take k) (hx : xs[k]? = some x) (hy : ys[k]? = some y) (e : x = y) : xs.take (k + 1) = ys.take (k + 1) := by
  rw [List.take_add_one, List.take_add_one, hx, hy, h, e]
theorem ne_of_at {α : Type} {xs ys : List α} {k : Nat} {x y : α} (hx : xs[k]? = some x) (hy : ys[k]? = some y) (e : x ≠ y) : xs ≠ ys := by
  rintro rfl; rw [hx] at hy; cases hy; exact e rfl

set_option maxHeartbeats 1000000 in
theorem same_any (va vb : Value) (xs ys : List Int) (w : World) (ha : IntsAt w va xs) (hb : IntsAt w vb ys) :
    Calls Tryz.prog 37 #[va, vb] w fun e w' => e = .returned (.bool (decide (xs = ys))) ∧ Ext w w' := by
  obtain ⟨a, c, rfl, h1, h2, h3⟩ := ha.open
  obtain ⟨a', c', rfl, h1', h2', h3'⟩ := hb.open
  have hmix : Tryz.prog.follows .mixedOrders = true := by kernel_rfl
  by_cases hl : xs.length = ys.length
  · have t0 : (xs.length == ys.length) = true := by simpa using hl
    have t1 : ((xs.length : Int) != (ys.length : Int)) = false := by simp [hl]
    have HL := Lib.hid hl
    have H3 := Lib.hid h3
    have H3' := Lib.hid h3'
    clear hl h3 h3' ha hb
    go_enter Tryz.func37, Tryz.ntmps37
    go_wp2
    go_loopw [5] (fun i wr => ∃ k : Nat, k ≤ xs.length ∧ i = .int .i64 k ∧ Hid (xs.take k = ys.take k) ∧ Ext w wr) (fun i _ => xs.length - (intOf i).toNat)
    case atStart => exact ⟨0, Nat.zero_le _, rfl, by simp [Hid], Ext.refl _⟩
    case round =>
      obtain ⟨k, hk, rfl, hE, hx⟩ := hrel
      by_cases hlt : k < xs.length
      · obtain ⟨b, o, x, rfl, hxk, hc⟩ := H3.out k hlt
        obtain ⟨b', o', y, rfl, hyk, hc'⟩ := H3'.out k (by rw [← HL.out]; exact hlt)
        have hlt' : k < ys.length := by rw [← HL.out]; exact hlt
        have d0 := hx.cell hc
        have d1 := hx.cell hc'
        have x2 : decide ((k : Int) < (xs.length : Int)) = true := by simpa using hlt
        have x3 : decide ((k : Int) < (ys.length : Int)) = true := by simpa using hlt'
        clear hc hc'
        by_cases hxy : x = y
        · have hs := Lib.hid (take_eq_succ hE.out hxk.out hyk.out hxy)
          subst hxy
          go_wp2
          go_quiet (fail)
          go_wp2
          exact ⟨⟨k + 1, by omega, by go_num, hs.out, hx.drewN _⟩, by simp [intOf]; omega⟩
        · have hne : xs ≠ ys := ne_of_at hxk.out hyk.out hxy
          have hd : decide (xs = ys) = false := by simpa using hne
          have t3 : (x != y) = true := by simpa using hxy
          have HD := Lib.hid hd
          clear hne hd
          go_wp2
          go_quiet (fail)
          go_wp2
          go_ret
          exact ⟨by rw [HD.out]; rfl, hx.drewN _⟩
      · have hke : k = xs.length := by omega
        have he : xs = ys := by
          have := hE.out
          rwa [List.take_of_length_le (by omega), List.take_of_length_le (by have := HL.out; omega)] at this
        have hd : decide (xs = ys) = true := by simpa using he
        have x2 : decide ((k : Int) < (xs.length : Int)) = false := by simp; omega
        have HD := Lib.hid hd
        clear he hd hke
        go_wp2
        go_ret
        exact ⟨by rw [HD.out]; rfl, hx⟩
  · have hne : xs ≠ ys := fun e => hl (by rw [e])
    have hd : decide (xs = ys) = false := by simpa using hne
    have t0 : (xs.length == ys.length) = false := by simpa using hl
    have t1 : ((xs.length : Int) == (ys.length : Int)) = false := by rw [beq_eq_false_iff_ne]; omega
    have t2 : (xs.length != ys.length) = true := by simpa using hl
    have t3 : ((xs.length : Int) != (ys.length : Int)) = true := by rw [bne_iff_ne]; omega
    rw [hd]
    clear hne hd hl h3 h3' ha hb
    go_enter Tryz.func37, Tryz.ntmps37
    go_wp2
    go_ret
    exact ⟨rfl, Ext.refl _⟩

def spanCells (p : Int × Int) : List Value := [.int .i64 p.1, .int .i64 p.2]
/-- A slice of spans. -/
def SpansAt (w : World) (v : Value) (ks : List (Int × Int)) : Prop := RowAt w v ks.length (ks.flatMap spanCells)
theorem SpansAt.ext {w w' : World} {v : Value} {ks : List (Int × Int)} (h : SpansAt w v ks) (k : Ext w w') : SpansAt w' v ks := RowAt.ext h k
theorem SpansAt.nil (w : World) : SpansAt w (.slice none 0 0) [] := RowAt.nil w
theorem SpansAt.open {w : World} {v : Value} {ks : List (Int × Int)} (h : SpansAt w v ks) : ∃ a c, v = .slice a ks.length c ∧ ks.length ≤ c ∧ c ≤ 9223372036854775807 ∧ ∀ i, i < ks.length → ∃ b o x, a = some ⟨b, o, none⟩ ∧ Hid (ks[i]? = some x) ∧
    w.cell? ⟨b, o + i * 2, none⟩ = some (.int .i64 x.1) ∧ w.cell? ⟨b, o + i * 2 + 1, none⟩ = some (.int .i64 x.2) := by
  obtain ⟨a, c, hv, h1, h2, _, h3⟩ := h
  refine ⟨a, c, hv, h1, h2, fun i hi => ?_⟩
  have hx : ks[i]? = some ks[i] := by simp [hi]
  have key : ∀ j, j < 2 → ∀ u, (spanCells (ks[i]))[j]? = some u → ∃ b o, a = some ⟨b, o, none⟩ ∧ w.cell? ⟨b, o + (i * 2 + j), none⟩ = some u := fun j hj u hu =>
    h3 (i * 2 + j) u (by rw [flatMap_at spanCells 2 (fun _ => rfl) ks i j _ hx hj]; exact hu)
  obtain ⟨b, o, rfl, c0⟩ := key 0 (by omega) _ rfl
  obtain ⟨b', o', e, c1⟩ := key 1 (by omega) _ rfl
  cases e
  exact ⟨b, o, ks[i], rfl, hx, c0, c1⟩

theorem two_fields {l : List Field} {n1 n2 : String} {t1 t2 o1 o2 : Nat} (h : (l.map fun f => (f.name, f.type, f.offset)) = [(n1, t1, o1), (n2, t2, o2)]) : ∃ f1 f2 : Field, l = [f1, f2] ∧ f1.name = n1 ∧ f1.type = t1 ∧ f1.offset = o1 ∧ f2.name = n2 ∧ f2.type = t2 ∧ f2.offset = o2 := by
  match l, h with
  | [f1, f2], h => simp at h; exact ⟨f1, f2, rfl, h.1.1, h.1.2.1, h.1.2.2, h.2.1, h.2.2.1, h.2.2.2⟩
theorem span_fields : ((Tryz.prog.fieldsOf 23).toList.map fun f => (f.name, f.type, f.offset)) = [("Low", 3, 0), ("High", 3, 1)] := by kernel_rfl
theorem span_under : Tryz.prog.underlying 23 = some (.struct (Tryz.prog.fieldsOf 23)) := by kernel_rfl
theorem span_held : Tryz.prog.stoodInHeld 23 = false := by kernel_rfl
theorem span_guard : Tryz.prog.eqGuardType Tryz.prog.depth 23 = false := by kernel_rfl
theorem span_equal (a b c d : Int) (w : World) : (Op.equalIn 10000 23 (.agg #[.int .i64 a, .int .i64 b]) (.agg #[.int .i64 c, .int .i64 d])).run Tryz.prog w = .ok (a == c && b == d) w := by
  obtain ⟨f1, f2, hf, n1, t1, o1, n2, t2, o2⟩ := two_fields span_fields
  have hu := Tryz.underlying3
  rw [run_equalIn_struct w 9999 _ _ _ span_under span_held, hf]
  cases h1 : (a == c) <;> cases h2 : (b == d) <;> simp [Op.eqFields, go_sem, n1, t1, o1, n2, t2, o2, hu, h1, h2]
theorem span_neq (a b c d : Int) (w : World) : (binOp .neq 23 (.agg #[.int .i64 a, .int .i64 b]) (.agg #[.int .i64 c, .int .i64 d])).run Tryz.prog w = .ok (.bool (!(a == c && b == d))) w := by
  rw [run_neq_struct, span_equal]; rfl
theorem span_eql (a b c d : Int) (w : World) : (binOp .eql 23 (.agg #[.int .i64 a, .int .i64 b]) (.agg #[.int .i64 c, .int .i64 d])).run Tryz.prog w = .ok (.bool (a == c && b == d)) w := by
  rw [run_eql_struct, span_equal]; rfl
set_option maxRecDepth 100000 in
set_option maxHeartbeats 1000000 in
theorem sameSpans_any (va vb : Value) (xs ys : List (Int × Int)) (w : World) (ha : SpansAt w va xs) (hb : SpansAt w vb ys) :
    Calls Tryz.prog 17 #[va, vb] w fun e w' => e = .returned (.bool (decide (xs = ys))) ∧ Ext w w' := by
  obtain ⟨a, c, rfl, h1, h2, h3⟩ := ha.open
  obtain ⟨a', c', rfl, h1', h2', h3'⟩ := hb.open
  have hmix : Tryz.prog.follows .mixedOrders = true := by kernel_rfl
  have hsg := span_guard
  have hsn := span_neq
  by_cases hl : xs.length = ys.length
  · have t0 : (xs.length == ys.length) = true := by simpa using hl
    have t1 : ((xs.length : Int) != (ys.length : Int)) = false := by simp [hl]
    have HL := Lib.hid hl
    have H3 := Lib.hid h3
    have H3' := Lib.hid h3'
    clear hl h3 h3' ha hb
    go_enter Tryz.func17, Tryz.ntmps17
    go_wp2
    go_loopw [5] (fun i wr => ∃ k : Nat, k ≤ xs.length ∧ i = .int .i64 k ∧ Hid (xs.take k = ys.take k) ∧ Ext w wr) (fun i _ => xs.length - (intOf i).toNat)
    case atStart => exact ⟨0, Nat.zero_le _, rfl, by simp [Hid], Ext.refl _⟩
    case round =>
      obtain ⟨k, hk, rfl, hE, hx⟩ := hrel
      by_cases hlt : k < xs.length
      · obtain ⟨b, o, x, rfl, hxk, hc, hd⟩ := H3.out k hlt
        obtain ⟨b', o', y, rfl, hyk, hc', hd'⟩ := H3'.out k (by rw [← HL.out]; exact hlt)
        have hlt' : k < ys.length := by rw [← HL.out]; exact hlt
        have d0 := hx.cell hc
        have d1 := hx.cell hc'
        have d2 := hx.cell hd
        have d3 := hx.cell hd'
        have x2 : decide ((k : Int) < (xs.length : Int)) = true := by simpa using hlt
        have x3 : decide ((k : Int) < (ys.length : Int)) = true := by simpa using hlt'
        obtain ⟨x1, x2'⟩ := x
        obtain ⟨y1, y2⟩ := y
        simp only at d0 d1 d2 d3
        clear hc hc' hd hd'
        by_cases hxy : x1 = y1 ∧ x2' = y2
        · obtain ⟨rfl, rfl⟩ := hxy
          have hs := Lib.hid (take_eq_succ hE.out hxk.out hyk.out rfl)
          go_wp2
          go_quiet (fail)
          go_wp2
          exact ⟨⟨k + 1, by omega, by go_num, hs.out, hx.drewN _⟩, by simp [intOf]; omega⟩
        · have hne : xs ≠ ys := ne_of_at hxk.out hyk.out (fun e => hxy (by simpa using e))
          have hd : decide (xs = ys) = false := by simpa using hne
          have HD := Lib.hid hd
          clear hne hd
          by_cases e1 : x1 = y1
          · subst e1
            have e2 : ¬ x2' = y2 := fun e => hxy ⟨rfl, e⟩
            have t4 : (x2' == y2) = false := by simpa using e2
            clear hxy
            go_wp2
            go_quiet (fail)
            go_wp2
            go_ret
            exact ⟨by rw [HD.out]; rfl, hx.drewN _⟩
          · have t4 : (x1 == y1) = false := by simpa using e1
            clear hxy
            go_wp2
            go_quiet (fail)
            go_wp2
            go_ret
            exact ⟨by rw [HD.out]; rfl, hx.drewN _⟩
      · have hke : k = xs.length := by omega
        have he : xs = ys := by
          have := hE.out
          rwa [List.take_of_length_le (by omega), List.take_of_length_le (by have := HL.out; omega)] at this
        have hd : decide (xs = ys) = true := by simpa using he
        have x2 : decide ((k : Int) < (xs.length : Int)) = false := by simp; omega
        have HD := Lib.hid hd
        clear he hd hke
        go_wp2
        go_ret
        exact ⟨by rw [HD.out]; rfl, hx⟩
  · have hne : xs ≠ ys := fun e => hl (by rw [e])
    have hd : decide (xs = ys) = false := by simpa using hne
    have t0 : (xs.length == ys.length) = false := by simpa using hl
    have t1 : ((xs.length : Int) == (ys.length : Int)) = false := by rw [beq_eq_false_iff_ne]; omega
    have t2 : (xs.length != ys.length) = true := by simpa using hl
    have t3 : ((xs.length : Int) != (ys.length : Int)) = true := by rw [bne_iff_ne]; omega
    rw [hd]
    clear hne hd hl h3 h3' ha hb
    go_enter Tryz.func17, Tryz.ntmps17
    go_wp2
    go_ret
    exact ⟨rfl, Ext.refl _⟩
end Go.Proofs.YtbeophjdiddomaaGreatDoor
