/- The reference's Totals, Total, Buttons. -/
import Derived.Test.YtjbeiclfggjbmaaGreatDoorReff
namespace Go.Proofs.YtjbeiclfggjbmaaGreatDoor
open Go.RowKit

/-! ### In plain Lean -/
def couldUp (r : Round) (free b : Int) (k : Nat) : List (List Int) := (List.range k).map (couldL r free b)
theorem couldUp_succ (r : Round) (free b : Int) (k : Nat) : couldUp r free b (k + 1) = couldUp r free b k ++ [couldL r free b k] := by
  unfold couldUp; rw [List.range_succ]; simp
theorem couldUp_length (r : Round) (free b : Int) (k : Nat) : (couldUp r free b k).length = k := by simp [couldUp]
theorem couldUp_at (r : Round) (free b : Int) {k i : Nat} (hi : i < k) : rowN (couldUp r free b k) i = couldL r free b i := by
  unfold rowN couldUp
  rw [List.getD_eq_getElem?_getD, List.getElem?_map, List.getElem?_range hi]; rfl
theorem couldUp_mem {r : Round} (hB : RoundB r) {free b : Int} {k : Nat} (hk : k ≤ r.houses.length) : ∀ l, l ∈ couldUp r free b k → ∀ y, y ∈ l → 0 ≤ y ∧ y ≤ 3000 := by
  intro l hl y hy
  obtain ⟨i, hi, rfl⟩ := List.mem_map.1 hl
  have := List.mem_range.1 hi
  exact couldL_bd hB (by omega) hy
/-- The sums of all houses that can be, if a button weighs b. -/
def totP (r : Round) (free b m : Int) : Prop := ∃ f, PickR r free b f m
theorem totP_iff {r : Round} {free b m : Int} : totP r free b m ↔ r.all - r.off ≤ m ∧ m ≤ r.all + r.off ∧ sumsP (couldUp r free b r.houses.length) r.houses.length m := by
  constructor
  · rintro ⟨f, h1, h2, h3, h4⟩
    exact ⟨h3, h4, (sumsP_iff _ _).2 ⟨f, fun i hi => by rw [couldUp_at r free b hi]; exact (mem_couldL hi).2 (h1 i hi), h2⟩⟩
  · rintro ⟨h3, h4, h5⟩
    obtain ⟨f, h1, h2⟩ := (sumsP_iff _ _).1 h5
    exact ⟨f, fun i hi => by have := h1 i hi; rw [couldUp_at r free b hi] at this; exact (mem_couldL hi).1 this, h2, h3, h4⟩
def totUp (P : Int → Prop) (lo : Int) (n : Nat) (m : Int) : Prop := ∃ k : Nat, m = k ∧ lo ≤ (k : Int) ∧ k < n ∧ P k
theorem totUp_zero (P : Int → Prop) {lo : Int} {n : Nat} (h : (n : Int) ≤ lo) (m : Int) : ¬ totUp P lo n m := by
  rintro ⟨k, _, h1, h2, _⟩; omega
theorem totUp_yes {P : Int → Prop} {lo : Int} {n : Nat} (hl : lo ≤ n) (h : P n) (m : Int) : (totUp P lo n m ∨ m = n) ↔ totUp P lo (n + 1) m := by
  constructor
  · rintro (⟨k, h1, h2, h3, h4⟩ | rfl)
    · exact ⟨k, h1, h2, by omega, h4⟩
    · exact ⟨n, rfl, hl, by omega, h⟩
  · rintro ⟨k, h1, h2, h3, h4⟩
    by_cases e : k = n
    · subst e; exact .inr h1
    · exact .inl ⟨k, h1, h2, by omega, h4⟩
theorem totUp_no {P : Int → Prop} {lo : Int} {n : Nat} (h : ¬ P n) (m : Int) : totUp P lo n m ↔ totUp P lo (n + 1) m := by
  constructor
  · rintro ⟨k, h1, h2, h3, h4⟩; exact ⟨k, h1, h2, by omega, h4⟩
  · rintro ⟨k, h1, h2, h3, h4⟩
    by_cases e : k = n
    · subst e; exact absurd h4 h
    · exact ⟨k, h1, h2, by omega, h4⟩
theorem totUp_end {r : Round} (hB : RoundB r) {free b : Int} {n : Nat} (h1 : ¬ ((n : Int) ≤ r.all + r.off ∧ n < 12001)) (hle : (n : Int) ≤ max 0 (r.all - r.off) ∨ (n : Int) ≤ r.all + r.off + 1) (m : Int) : totUp (sumsP (couldUp r free b r.houses.length) r.houses.length) (max 0 (r.all - r.off)) n m ↔ totP r free b m := by
  rw [totP_iff]
  constructor
  · rintro ⟨k, rfl, q1, q2, q3⟩
    exact ⟨by omega, by omega, q3⟩
  · rintro ⟨q1, q2, q3⟩
    have h3 := sums_small (couldUp_mem hB (free := free) (b := b) (Nat.le_refl _)) r.houses.length m (by rw [couldUp_length]; exact Nat.le_refl _) q3
    have h2 := hB.h2
    obtain ⟨k, rfl⟩ := Int.eq_ofNat_of_zero_le h3.1
    exact ⟨k, rfl, by omega, by omega, q3⟩
/-! ### Their walks -/
def TotRes (P : Int → Prop) (w : World) (e : Ending) (w' : World) : Prop := ∃ (v : Value) (xs : List Int), e = .returned v ∧ Ext w w' ∧ IntsAt w' v xs ∧ xs.length ≤ 12202 ∧ ∀ m, m ∈ xs ↔ P m
set_option maxRecDepth 100000 in
set_option maxHeartbeats 4000000 in
theorem rtotals_any (v : Value) (r : Round) (b : Int) (w : World) (hr : RoundAt w v r) (hB : RoundB r) (hb1 : r.lo ≤ b) (hb2 : b ≤ r.hi) :
    Calls Tryz.prog 132 #[v, .int .i64 b] w (TotRes (totP r (-1) b) w) := by
  obtain ⟨hv, rfl, hH⟩ := hr
  have hr' : RoundAt w (.agg (r.cells hv).toArray) r := ⟨hv, rfl, hH⟩
  have HCO := Lib.hid (fun (i : Nat) (hi : i < r.houses.length) w1 (hx : Ext w w1) =>
    (rcould_any _ r i (r.houses[i]'hi) b false w1 (hr'.ext hx) hB (List.getElem?_eq_getElem hi) hb1 hb2).mono (R' := CouldRes (couldL r (-1) b i) w1) (fun e w' h => by
      unfold couldL; rw [List.getD_eq_getElem?_getD, List.getElem?_eq_getElem hi, show decide ((i : Int) = -1) = false by simp]; exact h))
  unfold Round.cells at *
  obtain ⟨a, c, rfl, h1, h2, _⟩ := hH.open
  clear hr' hH
  have n2 := hB.h2
  have a1 := hB.a1
  have a2 := hB.a2
  have o1 := hB.o1
  have o2 := hB.o2
  have hx0 : Ext w (w.alloc (boxR r a c)) := (Ext.refl w).alloc _
  have hb0 := World.alloc_heap_new w (boxR r a c)
  go_enter Tryz.func132, Tryz.ntmps132
  go_wp2
  go_loopw [5, 6] (fun ov iv wr => ∃ k : Nat, k ≤ r.houses.length ∧ iv = .int .i64 k ∧ ListsOwn wr (w.heap.size + 1) ov (couldUp r (-1) b k) ∧ Ext w wr ∧ Hid (wr.heap[w.heap.size]? = some (boxR r a c))) (fun _ iv _ => r.houses.length - (intOf iv).toNat)
  case atStart => exact ⟨0, Nat.zero_le _, rfl, ListsOwn.nil _ _, hx0, hb0⟩
  case round =>
    clear hx0 hb0
    obtain ⟨k, hk, rfl, hL, hx, hbx⟩ := hrel
    obtain ⟨z0, z1, z2, z3, z4, z5, z6, z7⟩ := round_cells hbx.out
    have hbk := (Array.getElem?_eq_some_iff.1 hbx.out).1
    by_cases hlt : k < r.houses.length
    · have x2 : decide ((k : Int) < (r.houses.length : Int)) = true := by simpa using hlt
      have HN := Lib.hid (couldUp_succ r (-1) b k)
      have HC1 := Lib.hid (HCO.out k hlt wr hx)
      obtain ⟨vals, v1, v2, v3⟩ := hL
      have hsz : (couldUp r (-1) b k).length + 1 ≤ maxLen ∧ ((couldUp r (-1) b k).length + 1) * 24 ≤ 140737488355328 := by
        rw [couldUp_length]; unfold maxLen; omega
      have HSZ := Lib.hid hsz
      have HV := Lib.hid (And.intro v1 (And.intro v2 v3))
      clear hsz v1 v2 v3
      go_wp2_with (first
        | (go_at_call 154; refine HC1.out.mono ?_; rintro e w1 ⟨u, rfl, hx1, hu⟩; have hbz : w.heap.size + 1 ≤ w1.heap.size := by have := hx1.size; omega
           have hu' := owns_lower hu (show w.heap.size + 1 ≤ wr.heap.size from hbk); obtain ⟨ua, uc, rfl, _⟩ := (IntsAt.of_owns hu').open; have HU := Lib.hid hu'; clear hu hu')
        | (at_builtin; refine wpList_push E_rows rfl _ _ rfl (w.heap.size + 1) rfl (owns_ext HV.out.2.1 hx1) rfl rfl (by simp [Value.oneCell']) ?_ HSZ.out.1 HSZ.out.2 hbz; intro g cap w7 hown' hext hgr))
      go_roundw
      case rel =>
        refine ⟨k + 1, by omega, by go_num, ?_, hext _ (hx.trans hx1) (Nat.le_succ _), ?_⟩
        · rw [HN.out]
          exact lists_push HV.out.1 (owns_ext HV.out.2.1 hx1) (fun i u xs hu hx => owns_ext (HV.out.2.2 i u xs hu hx) hx1) HU.out hown' hgr
        · exact kept_push hgr ((hx1.block hbk).trans hbx.out) (owns_block HV.out.2.1) (Nat.lt_succ_self _)
      case measure => simp [intOf]; omega
    · have hke : k = r.houses.length := by omega
      subst hke
      have x2 : decide ((r.houses.length : Int) < (r.houses.length : Int)) = false := by simp
      have HS := Lib.hid (rsums_any _ _ wr hL.rows (couldUp_mem hB (Nat.le_refl _)))
      have HEND := Lib.hid (fun (n : Nat) h1 hle m => totUp_end hB (free := -1) (b := b) (n := n) h1 hle m)
      obtain ⟨oa, ok, hov, _⟩ := hL.rows.open
      subst hov
      obtain ⟨n0, hn0⟩ : ∃ n0 : Nat, max 0 (r.all - r.off) = n0 := ⟨(max 0 (r.all - r.off)).toNat, by omega⟩
      have hn0b : n0 ≤ 12000 := by omega
      have HN0E := Lib.hid hn0
      clear hL
      go_wp2_with (first
        | (go_at_call 155; refine HS.out.mono ?_; rintro e w1 ⟨g, rfl, hx1, hM⟩; clear z0 z1 z2 z3 z4 z5 z6 z7; obtain ⟨z0, z1, z2, z3, z4, z5, z6, z7⟩ := round_cells ((hx1.block hbk).trans hbx.out)))
      have hxw := hx.trans hx1
      have hbx1 := Lib.hid ((hx1.block hbk).trans hbx.out)
      have hgb : w.heap.size + 1 ≤ g := by have := hM.lt; omega
      clear hx hx1 hbx z0 z1 z2 z3 z4 z5 z6 z7 HS x2 hn0
      rw [couldUp_length] at hM
      generalize hPe : sumsP (couldUp r (-1) b r.houses.length) r.houses.length = P at hM HEND
      go_loopw [8, 9] (fun out nv wr => ∃ (n : Nat) (ys : List Int), nv = .int .i64 n ∧ n0 ≤ n ∧ n ≤ 12201 ∧ wr.ownsRow (w.heap.size + 1) 3 1 out ys.length (ys.map (.int .i64)) ∧ Hid (∀ m, m ∈ ys ↔ totUp P n0 n m) ∧ ys.length ≤ n ∧ Hid ((n : Int) ≤ n0 ∨ (n : Int) ≤ r.all + r.off + 1) ∧ MarksOn wr (w.heap.size + 1) g P ∧ Ext w wr ∧ Hid (wr.heap[w.heap.size]? = some (boxR r a c))) (fun _ nv _ => 12202 - (intOf nv).toNat)
      case atStart =>
        refine ⟨n0, [], rfl, Nat.le_refl _, by omega, World.ownsRow_nil _ _ _ _, fun m => ⟨fun h => by simp at h, fun h => absurd h (totUp_zero P (Int.le_refl _) m)⟩, by simp, .inl (Int.le_refl _), ?_, hxw, hbx1⟩
        obtain ⟨q1, q2, q3⟩ := hM
        exact ⟨q1, owns_lower q2 hbk, q3⟩
      case round =>
        clear hxw hbx1 hM
        obtain ⟨n, ys, rfl, hn1, hn2, hown, hmy, hyl, hle, hM, hx, hbx⟩ := hrel
        obtain ⟨z0, z1, z2, z3, z4, z5, z6, z7⟩ := round_cells hbx.out
        have hbk := (Array.getElem?_eq_some_iff.1 hbx.out).1
        by_cases hn : (n : Int) ≤ r.all + r.off ∧ n < 12001
        · obtain ⟨hna, hnb⟩ := hn
          have x3 : decide ((n : Int) ≤ r.all + r.off) = true := by simpa using hna
          have x4 : decide ((n : Int) < 12001) = true := by simp; omega
          have x5 : decide (n < 12001) = true := by simpa using hnb
          obtain ⟨mb, hc1, _, hmb⟩ := hM.read n hnb
          have HMB := Lib.hid hmb
          have HM := Lib.hid hM
          have hbz : w.heap.size + 1 ≤ wr.heap.size := hbk
          have hsz : ys.length + 1 ≤ maxLen ∧ (ys.length + 1) * 8 ≤ 140737488355328 := by unfold maxLen; omega
          have HSZ := Lib.hid hsz
          clear hmb hM hsz
          cases mb with
          | true =>
            have HY := Lib.hid (fun m => totUp_yes (lo := (n0 : Int)) (n := n) (by omega) (HMB.out.1 rfl) m)
            go_wp2_with (at_builtin; refine wpList_push E_ints rfl _ _ rfl (w.heap.size + 1) rfl hown rfl rfl (by simp [Value.oneCell']) ?_ HSZ.out.1 HSZ.out.2 hbz; intro g3 cap w7 hown' hext hgr)
            go_roundw
            case rel =>
              refine ⟨n + 1, ys ++ [(n : Int)], by go_num, by omega, by omega, ?_, fun m => ?_, by simp; omega, .inr (by omega), ?_, hext _ hx (Nat.le_succ _), ?_⟩
              · rw [List.length_append, List.map_append]; exact hown'
              · rw [← HY.out m, ← hmy.out m]; simp
              · obtain ⟨xs, q1, q2⟩ := HM.out
                refine ⟨xs, (q1.alloc _).kept hgr ?_, q2⟩
                rcases owns_ne q1 hown (by decide) with h | h
                · simp [Value.ownBlock] at h
                · exact .inr h
              · exact kept_push hgr hbx.out (owns_block hown) (Nat.lt_succ_self _)
            case measure => simp [intOf]; omega
          | false =>
            have hPn : ¬ P n := fun h => by have := HMB.out.2 h; cases this
            have HY := Lib.hid (fun m => totUp_no (lo := (n0 : Int)) (n := n) hPn m)
            clear hPn
            go_wp2
            go_roundw
            case rel => exact ⟨n + 1, ys, by go_num, by omega, by omega, hown, fun m => (hmy.out m).trans (HY.out m), by omega, .inr (by omega), HM.out, hx, hbx⟩
            case measure => simp [intOf]; omega
        · have HF : Hid (TotRes (totP r (-1) b) w (.returned u8) wr) :=
            ⟨u8, ys, rfl, hx, IntsAt.of_owns hown, by omega, fun m => (hmy.out m).trans (by
              have := HEND.out n hn (by rw [HN0E.out]; exact hle.out) m
              rwa [HN0E.out] at this)⟩
          clear hown hM hmy hle
          by_cases hna : (n : Int) ≤ r.all + r.off
          · have hnb : ¬ n < 12001 := fun h => hn ⟨hna, h⟩
            have x3 : decide ((n : Int) ≤ r.all + r.off) = true := by simpa using hna
            have x4 : decide ((n : Int) < 12001) = false := by simp; omega
            have x5 : decide (n < 12001) = false := by simpa using hnb
            clear hn
            go_wp2
            go_ret
            exact HF.out
          · have x3 : decide ((n : Int) ≤ r.all + r.off) = false := by simpa using hna
            clear hn
            go_wp2
            go_ret
            exact HF.out
theorem allR_succ {r : Round} (hB : RoundB r) {free b : Int} (hb : r.lo ≤ b) (m : Int) : (allR r free b m ∨ totP r free b m) ↔ allR r free (b + 1) m := by
  rw [allR_iff hB, allR_iff hB]
  constructor
  · rintro (⟨b', f, h1, h2, h3⟩ | ⟨f, h⟩)
    · exact ⟨b', f, h1, by omega, h3⟩
    · exact ⟨b, f, hb, by omega, h⟩
  · rintro ⟨b', f, h1, h2, h3⟩
    by_cases e : b' = b
    · subst e; exact .inr ⟨f, h3⟩
    · exact .inl ⟨b', f, h1, by omega, h3⟩
theorem buttonR_succ {r : Round} (hB : RoundB r) {free b : Int} (hb : r.lo ≤ b) (m : Int) : (buttonR r free b m ∨ (m = b ∧ ∃ a, totP r free b a)) ↔ buttonR r free (b + 1) m := by
  rw [buttonR_iff hB, buttonR_iff hB]
  constructor
  · rintro (⟨h1, h2, h3⟩ | ⟨rfl, a, f, h⟩)
    · exact ⟨h1, by omega, h3⟩
    · exact ⟨hb, by omega, f, a, h⟩
  · rintro ⟨h1, h2, f, a, h3⟩
    by_cases e : m = b
    · subst e; exact .inr ⟨rfl, a, f, h3⟩
    · exact .inl ⟨h1, by omega, f, a, h3⟩
theorem span_row {xs ys : List Int} (hy : ys ≠ []) (h : ∀ m, m ∈ xs ↔ m ∈ ys) : ∃ x l, xs = x :: l ∧ spanOf (x :: l) = spanOf ys := by
  cases xs with
  | nil =>
    obtain ⟨m, hm'⟩ := List.exists_mem_of_ne_nil _ hy
    have := (h m).2 hm'; simp at this
  | cons x l => exact ⟨x, l, rfl, spanOf_congr h⟩
set_option maxRecDepth 100000 in
set_option maxHeartbeats 4000000 in
theorem rtotal_any (v : Value) (r : Round) (w : World) (hr : RoundAt w v r) (hB : RoundB r) (ha : agreeB r (-1) = true) :
    Calls Tryz.prog 69 #[v] w fun e w' => e = .returned (spanV (totalL r)) ∧ Ext w w' := by
  obtain ⟨hv, rfl, hH⟩ := hr
  have hr' : RoundAt w (.agg (r.cells hv).toArray) r := ⟨hv, rfl, hH⟩
  have HT := Lib.hid (fun b (h1 : r.lo ≤ b) (h2 : b ≤ r.hi) w1 (hx : Ext w w1) => rtotals_any _ r b w1 (hr'.ext hx) hB h1 h2)
  have HAG := Lib.hid ha
  unfold Round.cells at *
  obtain ⟨a, c, rfl, h1, h2, _⟩ := hH.open
  clear hr' hH ha
  have l1 := hB.l1
  have l2 := hB.l2
  have l3 := hB.l3
  have l4 := hB.l4
  have hx0 : Ext w ((w.alloc (boxR r a c)).alloc (.cells #[.int .i64 0, .int .i64 0] 23)) := ((Ext.refl w).alloc _).alloc _
  have hb0 := two_new w (boxR r a c) (.cells #[.int .i64 0, .int .i64 0] 23)
  go_enter Tryz.func69, Tryz.ntmps69
  go_wp2
  go_loopw [3, 4] (fun out bv wr => ∃ (b : Int) (xs : List Int), r.lo ≤ b ∧ b ≤ r.hi + 1 ∧ bv = .int .i64 b ∧ wr.ownsRow (w.heap.size + 1 + 1) 3 1 out xs.length (xs.map (.int .i64)) ∧ Hid (∀ m, m ∈ xs ↔ allR r (-1) b m) ∧ (xs.length : Int) ≤ (b - r.lo) * 12202 ∧ Ext w wr ∧ Hid (wr.heap[w.heap.size]? = some (boxR r a c) ∧ wr.heap[w.heap.size + 1]? = some (.cells #[.int .i64 0, .int .i64 0] 23))) (fun _ bv _ => (r.hi + 1 - intOf bv).toNat)
  case atStart => exact ⟨r.lo, [], Int.le_refl _, by omega, rfl, World.ownsRow_nil _ _ _ _, fun m => ⟨fun h => by simp at h, fun h => (allR_lo m h).elim⟩, by simp, hx0, hb0⟩
  case round =>
    clear hx0 hb0
    obtain ⟨b, xs, hb1, hb2, rfl, hown, hmem, hlen, hx, hbx⟩ := hrel
    obtain ⟨z0, z1, z2, z3, z4, z5, z6, z7⟩ := round_cells hbx.out.1
    have hbk := (Array.getElem?_eq_some_iff.1 hbx.out.2).1
    have hlt4 : (b - r.lo) * 12202 ≤ 5 * 12202 := Int.mul_le_mul_of_nonneg_right (by omega) (by omega)
    by_cases hbl : b ≤ r.hi
    · have x1 : decide (b ≤ r.hi) = true := by simpa using hbl
      have HT1 := Lib.hid (HT.out b hb1 hbl wr hx)
      have HN := Lib.hid (fun m => allR_succ hB (free := -1) hb1 m)
      go_wp2_with (first
        | (go_at_call 132; refine HT1.out.mono ?_; rintro e w1 ⟨u, ys, rfl, hx1, hu, hyl, hym⟩; obtain ⟨ua, uc, rfl, _⟩ := hu.open; have HU := Lib.hid hu; have HYM := Lib.hid hym; clear hu hym; have hbz : w.heap.size + 1 + 1 ≤ w1.heap.size := by have := hx1.size; omega
           have hsz : xs.length + ys.length ≤ maxLen ∧ (xs.length + ys.length) * 8 ≤ 140737488355328 := by unfold maxLen; omega
           have HSZ := Lib.hid hsz; clear hsz)
        | (at_builtin; refine wpList_append_row E_ints rfl _ _ rfl (w.heap.size + 1 + 1) rfl (owns_ext hown hx1) rfl HU.out (by simp) (ints_one ys) ?_ HSZ.out.1 HSZ.out.2 hbz; intro v' w2 hown' hgrow _))
      have hgr1 : ∀ g, u3.ownBlock = some g → w.heap.size + 1 + 1 ≤ g := fun g hg => owns_block hown g hg
      have hx2 : Ext w w2 := (hx.trans hx1).grown hgrow (fun g hg => by have := hgr1 g hg; omega)
      have hb2' : ∀ {o : Nat} {X : Obj}, o < w.heap.size + 1 + 1 → wr.heap[o]? = some X → w2.heap[o]? = some X := fun {o X} ho hX => by
        have h3 := (hx1.block (Array.getElem?_eq_some_iff.1 hX).1).trans hX
        exact (hgrow.block o (Array.getElem?_eq_some_iff.1 h3).1 (fun e => by have := hgr1 _ e.symm; omega)).trans h3
      go_roundw
      case rel =>
        refine ⟨b + 1, xs ++ ys, by omega, by omega, by go_num, ?_, fun m => ?_, by simp; omega, hx2, hb2' (by omega) hbx.out.1, hb2' (by omega) hbx.out.2⟩
        · rw [List.length_append, List.map_append]; exact hown'
        · rw [← HN.out m, ← hmem.out m, ← HYM.out m]; simp
      case measure => simp [intOf]; omega
    · have hbe : b = r.hi + 1 := by omega
      subst hbe
      have x1 : decide (r.hi + 1 ≤ r.hi) = false := by simp; omega
      obtain ⟨x, l, rfl, hsp⟩ := span_row (allL_ne hB HAG.out) (fun m => (hmem.out m).trans (mem_allL hB).symm)
      have hI : IntsAt wr u3 (x :: l) := IntsAt.of_owns hown
      have HE := Lib.hid (ends_any u3 x l wr hI)
      have HSP := Lib.hid hsp
      obtain ⟨va, vc, rfl, _⟩ := hI.open
      clear hmem hown hsp hI
      go_wp2_with (go_at_call 100; refine HE.out.mono ?_; rintro e w2 ⟨rfl, hx2⟩; have hbx2 := Lib.hid ((hx2.block hbk).trans hbx.out.2); obtain ⟨⟨f0, f1⟩, ⟨g0, g1⟩, k1, k2⟩ := box2 hbx2.out (.int .i64 (spanOf (x :: l)).1))
      have hend := box2_end hbx2.out (.int .i64 (spanOf (x :: l)).1) (.int .i64 (spanOf (x :: l)).2)
      obtain ⟨⟨d0, d1⟩, _⟩ := box2 hend (.int .i64 0)
      have hE := (((hx.trans hx2).setCell (p := ⟨w.heap.size + 1, 0, none⟩) (by simp) (.int .i64 (spanOf (x :: l)).1)).setCell (p := ⟨w.heap.size + 1, 1, none⟩) (by simp) (.int .i64 (spanOf (x :: l)).2))
      exact bodyPost_ret (v := spanV (spanOf (x :: l))) (by simp [results, Tryz.f69, go_sem, d0, d1, spanV]) rfl ⟨by rw [HSP.out]; rfl, hE⟩
set_option maxRecDepth 100000 in
set_option maxHeartbeats 4000000 in
theorem rbuttons_any (v : Value) (r : Round) (w : World) (hr : RoundAt w v r) (hB : RoundB r) (ha : agreeB r (-1) = true) :
    Calls Tryz.prog 70 #[v] w fun e w' => e = .returned (spanV (weightL r)) ∧ Ext w w' := by
  obtain ⟨hv, rfl, hH⟩ := hr
  have hr' : RoundAt w (.agg (r.cells hv).toArray) r := ⟨hv, rfl, hH⟩
  have HT := Lib.hid (fun b (h1 : r.lo ≤ b) (h2 : b ≤ r.hi) w1 (hx : Ext w w1) => rtotals_any _ r b w1 (hr'.ext hx) hB h1 h2)
  have HAG := Lib.hid ha
  unfold Round.cells at *
  obtain ⟨a, c, rfl, h1, h2, _⟩ := hH.open
  clear hr' hH ha
  have l1 := hB.l1
  have l2 := hB.l2
  have l3 := hB.l3
  have l4 := hB.l4
  have hx0 : Ext w ((w.alloc (boxR r a c)).alloc (.cells #[.int .i64 0, .int .i64 0] 23)) := ((Ext.refl w).alloc _).alloc _
  have hb0 := two_new w (boxR r a c) (.cells #[.int .i64 0, .int .i64 0] 23)
  go_enter Tryz.func70, Tryz.ntmps70
  go_wp2
  go_loopw [3, 4] (fun out bv wr => ∃ (b : Int) (xs : List Int), r.lo ≤ b ∧ b ≤ r.hi + 1 ∧ bv = .int .i64 b ∧ wr.ownsRow (w.heap.size + 1 + 1) 3 1 out xs.length (xs.map (.int .i64)) ∧ Hid (∀ m, m ∈ xs ↔ buttonR r (-1) b m) ∧ (xs.length : Int) ≤ b - r.lo ∧ Ext w wr ∧ Hid (wr.heap[w.heap.size]? = some (boxR r a c) ∧ wr.heap[w.heap.size + 1]? = some (.cells #[.int .i64 0, .int .i64 0] 23))) (fun _ bv _ => (r.hi + 1 - intOf bv).toNat)
  case atStart => exact ⟨r.lo, [], Int.le_refl _, by omega, rfl, World.ownsRow_nil _ _ _ _, fun m => ⟨fun h => by simp at h, fun h => by obtain ⟨h1, h2, _⟩ := h; omega⟩, by simp, hx0, hb0⟩
  case round =>
    clear hx0 hb0
    obtain ⟨b, xs, hb1, hb2, rfl, hown, hmem, hlen, hx, hbx⟩ := hrel
    obtain ⟨z0, z1, z2, z3, z4, z5, z6, z7⟩ := round_cells hbx.out.1
    have hbk := (Array.getElem?_eq_some_iff.1 hbx.out.2).1
    by_cases hbl : b ≤ r.hi
    · have x1 : decide (b ≤ r.hi) = true := by simpa using hbl
      have HT1 := Lib.hid (HT.out b hb1 hbl wr hx)
      have HN := Lib.hid (fun m => buttonR_succ hB (free := -1) hb1 m)
      have hsz : xs.length + 1 ≤ maxLen ∧ (xs.length + 1) * 8 ≤ 140737488355328 := by unfold maxLen; omega
      have HSZ := Lib.hid hsz
      clear hsz
      have hem : (∃ m, totP r (-1) b m) ∨ ¬ ∃ m, totP r (-1) b m := Classical.em _
      rcases hem with hyes | hno
      · have HT2 : Hid (Calls Tryz.prog 132 #[.agg #[.int .i64 r.per, .int .i64 r.lo, .int .i64 r.hi, .int .i64 r.card, .int .i64 r.slack, .slice a r.houses.length c, .int .i64 r.all, .int .i64 r.off], .int .i64 b] wr fun e w' => ∃ (ua : Option Addr) (n uc : Nat), e = .returned (.slice ua (n + 1) uc) ∧ Ext wr w') :=
          HT1.out.mono fun e w1 h => by
            obtain ⟨u, ys, rfl, hx1, hu, hyl, hym⟩ := h
            obtain ⟨m, hm⟩ := hyes
            obtain ⟨ua, uc, rfl, _⟩ := hu.open
            cases ys with
            | nil => have := (hym m).2 hm; simp at this
            | cons y ys => exact ⟨ua, ys.length, uc, rfl, hx1⟩
        have HY := Lib.hid (fun m => show (buttonR r (-1) b m ∨ m = b) ↔ buttonR r (-1) (b + 1) m by
          rw [← HN.out m]
          constructor
          · rintro (h | h)
            · exact .inl h
            · exact .inr ⟨h, hyes⟩
          · rintro (h | h)
            · exact .inl h
            · exact .inr h.1)
        clear hyes HT1
        go_wp2_with (first
          | (go_at_call 132; refine HT2.out.mono ?_; rintro e w1 ⟨ua, n, uc, rfl, hx1⟩; have hbz : w.heap.size + 1 + 1 ≤ w1.heap.size := by have := hx1.size; omega)
          | (at_builtin; refine wpList_push E_ints rfl _ _ rfl (w.heap.size + 1 + 1) rfl (owns_ext hown hx1) rfl rfl (by simp [Value.oneCell']) ?_ HSZ.out.1 HSZ.out.2 hbz; intro g cap w2 hown' hext hgr))
        go_roundw
        case rel =>
          refine ⟨b + 1, xs ++ [b], by omega, by omega, by go_num, ?_, fun m => ?_, by simp; omega, hext _ (hx.trans hx1) (by omega), kept_push hgr ((hx1.block (by omega)).trans hbx.out.1) (owns_block hown) (by omega), kept_push hgr ((hx1.block hbk).trans hbx.out.2) (owns_block hown) (by omega)⟩
          · rw [List.length_append, List.map_append]; exact hown'
          · rw [← HY.out m, ← hmem.out m]; simp
        case measure => simp [intOf]; omega
      · have HT2 : Hid (Calls Tryz.prog 132 #[.agg #[.int .i64 r.per, .int .i64 r.lo, .int .i64 r.hi, .int .i64 r.card, .int .i64 r.slack, .slice a r.houses.length c, .int .i64 r.all, .int .i64 r.off], .int .i64 b] wr fun e w' => ∃ (ua : Option Addr) (uc : Nat), e = .returned (.slice ua 0 uc) ∧ Ext wr w') :=
          HT1.out.mono fun e w1 h => by
            obtain ⟨u, ys, rfl, hx1, hu, hyl, hym⟩ := h
            obtain ⟨ua, uc, rfl, _⟩ := hu.open
            cases ys with
            | nil => exact ⟨ua, uc, rfl, hx1⟩
            | cons y ys => exact absurd ⟨y, (hym y).1 (by simp)⟩ hno
        have HY := Lib.hid (fun m => show buttonR r (-1) b m ↔ buttonR r (-1) (b + 1) m by
          rw [← HN.out m]
          constructor
          · exact .inl
          · rintro (h | h)
            · exact h
            · exact absurd h.2 hno)
        clear hno HT1
        go_wp2_with (first
          | (go_at_call 132; refine HT2.out.mono ?_; rintro e w1 ⟨ua, uc, rfl, hx1⟩))
        go_roundw
        case rel => exact ⟨b + 1, xs, by omega, by omega, by go_num, owns_ext hown hx1, fun m => (hmem.out m).trans (HY.out m), by omega, hx.trans hx1, (hx1.block (by omega)).trans hbx.out.1, (hx1.block hbk).trans hbx.out.2⟩
        case measure => simp [intOf]; omega
    · have hbe : b = r.hi + 1 := by omega
      subst hbe
      have x1 : decide (r.hi + 1 ≤ r.hi) = false := by simp; omega
      obtain ⟨x, l, rfl, hsp⟩ := span_row (butsL_ne HAG.out) (fun m => (hmem.out m).trans (mem_butsL hB).symm)
      have hI : IntsAt wr u3 (x :: l) := IntsAt.of_owns hown
      have HE := Lib.hid (ends_any u3 x l wr hI)
      have HSP := Lib.hid hsp
      obtain ⟨va, vc, rfl, _⟩ := hI.open
      clear hmem hown hsp hI
      go_wp2_with (go_at_call 100; refine HE.out.mono ?_; rintro e w2 ⟨rfl, hx2⟩; have hbx2 := Lib.hid ((hx2.block hbk).trans hbx.out.2); obtain ⟨⟨f0, f1⟩, ⟨g0, g1⟩, k1, k2⟩ := box2 hbx2.out (.int .i64 (spanOf (x :: l)).1))
      have hend := box2_end hbx2.out (.int .i64 (spanOf (x :: l)).1) (.int .i64 (spanOf (x :: l)).2)
      obtain ⟨⟨d0, d1⟩, _⟩ := box2 hend (.int .i64 0)
      have hE := (((hx.trans hx2).setCell (p := ⟨w.heap.size + 1, 0, none⟩) (by simp) (.int .i64 (spanOf (x :: l)).1)).setCell (p := ⟨w.heap.size + 1, 1, none⟩) (by simp) (.int .i64 (spanOf (x :: l)).2))
      exact bodyPost_ret (v := spanV (spanOf (x :: l))) (by simp [results, Tryz.f70, go_sem, d0, d1, spanV]) rfl ⟨by rw [HSP.out]; rfl, hE⟩
end Go.Proofs.YtjbeiclfggjbmaaGreatDoor
