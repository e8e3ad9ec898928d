/- The reference's Could: what a house can have brought, as a list. -/
import Derived.Test.YtpheidlocijdkaaGreatDoorRefa
import Derived.Test.YtpheidlocijdkaaGreatDoorWaysb
import Derived.Test.YtpheidlocijdkaaGreatDoorPush
import Derived.Test.YtpheidlocijdkaaGreatDoorOthers
namespace Go.Proofs.YtpheidlocijdkaaGreatDoor
open Go.RowKit

def upTo (r : Round) (b : Int) (h : House) (free : Bool) (k : Nat) : List (Int × Int) := (List.range k).flatMap fun f => (rowOf f r.per.toNat).filter (okB r b h free)
/-- What has been found when k rows and j numbers of the next one have been gone through. -/
def numsAt (r : Round) (b : Int) (h : House) (free : Bool) (k j : Nat) : List Int := (upTo r b h free k ++ (rowOf k j).filter (okB r b h free)).map fun x => nOf r x.1 x.2
section
variable {r : Round} {b : Int} {h : House} {free : Bool}
theorem numsAt_start : numsAt r b h free 0 0 = [] := by simp [numsAt, upTo, rowOf]
theorem numsAt_row (k : Nat) : numsAt r b h free k r.per.toNat = numsAt r b h free (k + 1) 0 := by
  unfold numsAt upTo; rw [List.range_succ]; simp [rowOf]
theorem numsAt_yes {k j : Nat} (hk : okB r b h free (k, j) = true) : numsAt r b h free k (j + 1) = numsAt r b h free k j ++ [nOf r k j] := by
  unfold numsAt; rw [rowOf_succ, List.filter_append, List.filter_cons_of_pos hk]; simp
theorem numsAt_no {k j : Nat} (hk : okB r b h free (k, j) = false) : numsAt r b h free k (j + 1) = numsAt r b h free k j := by
  unfold numsAt; rw [rowOf_succ, List.filter_append, List.filter_cons_of_neg (by rw [hk]; simp)]; simp
theorem numsAt_end (k : Nat) (hk : k = (h.cards + 1).toNat) : numsAt r b h free k 0 = (waysOf r b h free).map fun x => nOf r x.1 x.2 := by
  subst hk; unfold numsAt upTo waysOf; simp [rowOf]
theorem rowOf_length (f n : Nat) : (rowOf f n).length = n := by simp [rowOf]
theorem upTo_len : ∀ k : Nat, (upTo r b h free k).length ≤ k * r.per.toNat
  | 0 => by simp [upTo]
  | k + 1 => by
    have ih := upTo_len k
    have h1 := List.length_filter_le (okB r b h free) (rowOf k r.per.toNat)
    rw [rowOf_length] at h1
    have : upTo r b h free (k + 1) = upTo r b h free k ++ (rowOf k r.per.toNat).filter (okB r b h free) := by unfold upTo; rw [List.range_succ]; simp
    rw [this, List.length_append, Nat.succ_mul]; omega
theorem numsAt_len (k j : Nat) : (numsAt r b h free k j).length ≤ k * r.per.toNat + j := by
  have h1 := List.length_filter_le (okB r b h free) (rowOf k j)
  rw [rowOf_length] at h1
  have := @upTo_len r b h free k
  unfold numsAt; rw [List.length_map, List.length_append]; omega
end
def CouldRes (xs : List Int) (w : World) (e : Ending) (w' : World) : Prop := ∃ v, e = .returned v ∧ Ext w w' ∧ w'.ownsRow w.heap.size 3 1 v xs.length (xs.map (.int .i64))
theorem owns_lower {w : World} {base base' : Nat} {e : TypeId} {size : Nat} {v : Value} {n : Nat} {xs : List Value} (h : w.ownsRow base e size v n xs) (hb : base' ≤ base) : w.ownsRow base' e size v n xs := by
  refine ⟨h.1, ?_⟩
  rcases h.2 with h1 | ⟨g, cap, cur, h1, h2, h3⟩
  · exact .inl h1
  · exact .inr ⟨g, cap, cur, h1, by omega, h3⟩

set_option maxRecDepth 100000 in
set_option maxHeartbeats 4000000 in
theorem rcould_any (v : Value) (r : Round) (i : Nat) (h : House) (button : Int) (free : Bool) (w : World) (hr : RoundAt w v r) (hB : RoundB r) (hi : r.houses[i]? = some h) (hw : r.lo ≤ button) (hw' : button ≤ r.hi) :
    Calls Tryz.prog 101 #[v, .int .i64 i, .int .i64 button, .bool free] w (CouldRes ((waysOf r button h free).map fun x => nOf r x.1 x.2) w) := by
  have hlt := (List.getElem?_eq_some_iff.1 hi).1
  have hb := hB.hs h (List.mem_of_getElem? hi)
  obtain ⟨⟨a1, a2⟩, ⟨b1, b2⟩, ⟨e1, e2⟩, ⟨d1, d2⟩, ⟨g1, g2⟩, ⟨f1, f2⟩⟩ := badHouse_iff.1 hb
  have p1 := hB.p1
  have p2 := hB.p2
  obtain ⟨hv, rfl, hh⟩ := hr
  have hr' : RoundAt w (.agg (r.cells hv).toArray) r := ⟨hv, rfl, hh⟩
  have HBR := Lib.hid (fun full loose w1 (hx : Ext w w1) => rbrought_any _ r i h button full loose w1 (hr'.ext hx) hB hi hw hw')
  have HCO := Lib.hid (fun (full loose : Nat) w1 (h1 : (full : Int) ≤ h.cards) (h2 : (loose : Int) < r.per) => rcounted_any h full loose w1 hb (by omega) (by omega) (by omega) (by omega))
  unfold Round.cells at *
  obtain ⟨a, c, rfl, h1, h2, h3⟩ := hh.open
  obtain ⟨b, o, x, rfl, hxk, c0, c1, c2, c3, c4, c5⟩ := h3 i hlt
  have hxh : x = h := by have := hxk.out; rw [hi] at this; cases this; rfl
  subst hxh
  clear h3 hh hxk hi hr' hB hb
  have hx0 : Ext w (w.alloc (.cells #[.int .i64 r.per, .int .i64 r.lo, .int .i64 r.hi, .int .i64 r.card, .int .i64 r.slack, .slice (some ⟨b, o, none⟩) r.houses.length c, .int .i64 r.all, .int .i64 r.off] 26)) := (Ext.refl w).alloc _
  have hb0 := World.alloc_heap_new w (.cells #[.int .i64 r.per, .int .i64 r.lo, .int .i64 r.hi, .int .i64 r.card, .int .i64 r.slack, .slice (some ⟨b, o, none⟩) r.houses.length c, .int .i64 r.all, .int .i64 r.off] 26)
  have HC := Lib.hid (And.intro c0 (And.intro c1 (And.intro c2 (And.intro c3 (And.intro c4 c5)))))
  clear c0 c1 c2 c3 c4 c5
  have hpt : (r.per.toNat : Int) = r.per := by omega
  go_enter Tryz.func101, Tryz.ntmps101
  go_wp2
  go_loopw [9, 10] (fun out f wr => ∃ k : Nat, (k : Int) ≤ x.cards + 1 ∧ f = .int .i64 k ∧ wr.ownsRow (w.heap.size + 1) 3 1 out (numsAt r button x free k 0).length ((numsAt r button x free k 0).map (.int .i64)) ∧ Ext w wr ∧ Hid (wr.heap[w.heap.size]? = some (.cells #[.int .i64 r.per, .int .i64 r.lo, .int .i64 r.hi, .int .i64 r.card, .int .i64 r.slack, .slice (some ⟨b, o, none⟩) r.houses.length c, .int .i64 r.all, .int .i64 r.off] 26 (0, 0)))) (fun _ f _ => (x.cards + 1 - intOf f).toNat)
  case atStart => exact ⟨0, by omega, rfl, by rw [numsAt_start]; exact World.ownsRow_nil _ _ _ _, hx0, hb0⟩
  case round =>
    clear hx0 hb0
    obtain ⟨k, hk, rfl, hown, hx, hbx⟩ := hrel
    obtain ⟨z0, z1, z2, z3, z4, z5, z6, z7⟩ := round_cells hbx.out
    have k1 := hx.cell HC.out.2.1
    by_cases hkc : (k : Int) ≤ x.cards
    · have t1 : 0 ≤ (k : Int) * r.per := Int.mul_nonneg (by omega) (by omega)
      have t2 : (k : Int) * r.per ≤ 2160 := by
        have := Int.mul_le_mul (show (k : Int) ≤ 60 by omega) p2 (by omega) (by omega : (0:Int) ≤ 60)
        omega
      have hx2 : decide ((k : Int) ≤ x.cards) = true := by simpa using hkc
      go_wp2
      obtain ⟨wo, rfl⟩ : ∃ wo : World, wo = wr := ⟨_, rfl⟩
      go_loopw [9, 11] (fun out j wr => ∃ jn : Nat, (jn : Int) ≤ r.per ∧ j = .int .i64 jn ∧ wr.ownsRow (w.heap.size + 1) 3 1 out (numsAt r button x free k jn).length ((numsAt r button x free k jn).map (.int .i64)) ∧ Ext w wr ∧ Hid (wr.heap[w.heap.size]? = some (.cells #[.int .i64 r.per, .int .i64 r.lo, .int .i64 r.hi, .int .i64 r.card, .int .i64 r.slack, .slice (some ⟨b, o, none⟩) r.houses.length c, .int .i64 r.all, .int .i64 r.off] 26 (0, 0)))) (fun _ j _ => (r.per - intOf j).toNat)
      case atStart => exact ⟨0, by omega, rfl, hown, hx, hbx⟩
      case round =>
        clear hown hx hbx z0 z1 z2 z3 z4 z5 z6 z7 k1 hx2
        obtain ⟨jn, hj, rfl, hown, hx, hbx⟩ := hrel
        obtain ⟨z0, z1, z2, z3, z4, z5, z6, z7⟩ := round_cells hbx.out
        obtain ⟨k0, k1, k2, k3, k4, k5⟩ := HC.out
        have k0 := hx.cell k0
        have k1 := hx.cell k1
        have k2 := hx.cell k2
        have k3 := hx.cell k3
        have k4 := hx.cell k4
        have k5 := hx.cell k5
        by_cases hjp : (jn : Int) < r.per
        · have hx2 : decide ((jn : Int) < r.per) = true := by simpa using hjp
          have hlen : (numsAt r button x free k jn).length ≤ 2400 := by
            have := @numsAt_len r button x free k jn
            have h60 : k ≤ 60 := by omega
            have hp36 : r.per.toNat ≤ 36 := by omega
            have := Nat.mul_le_mul h60 hp36
            omega
          have hbl := (Array.getElem?_eq_some_iff.1 hbx.out).1
          have hsz : (numsAt r button x free k jn).length + 1 ≤ maxLen ∧ ((numsAt r button x free k jn).length + 1) * 8 ≤ 140737488355328 := by unfold maxLen; omega
          have HSZ := Lib.hid hsz
          have HBR1 := Lib.hid (fun w1 hx => HBR.out k jn w1 hx)
          have HCO1 := Lib.hid (fun w1 => HCO.out k jn w1 hkc hjp)
          have hcm : nOf r k jn = (k : Int) * r.per + jn := by unfold nOf; rw [Int.mul_comm]
          clear hsz HBR HCO
          cases hcan : canB r button x k jn with
          | false =>
            have HN := Lib.hid (show numsAt r button x free k (jn + 1) = numsAt r button x free k jn from numsAt_no (by simp [okB, hcan]))
            rw [hcan] at HBR1
            clear hcan hcm
            go_wp2_with (go_at_call 81; refine (HBR1.out _ hx).mono ?_; rintro e w1 ⟨rfl, hx1⟩)
            go_roundw
            case rel => exact ⟨jn + 1, by omega, by go_num, by rw [HN.out]; exact owns_ext hown hx1, hx.trans hx1, (hx1.block hbl).trans hbx.out⟩
            case measure => simp [intOf]; omega
          | true =>
            rw [hcan] at HBR1
            cases free with
            | true =>
              have HN := Lib.hid (show numsAt r button x true k (jn + 1) = numsAt r button x true k jn ++ [(k : Int) * r.per + jn] from (numsAt_yes (by simp [okB, hcan])).trans (by rw [hcm]))
              clear hcan hcm
              go_wp2_with (first
                | (go_at_call 81; refine (HBR1.out _ hx).mono ?_; rintro e w1 ⟨rfl, hx1⟩; obtain ⟨z0, z1, z2, z3, z4, z5, z6, z7⟩ := round_cells ((hx1.block hbl).trans hbx.out); have hbz : w.heap.size + 1 ≤ w1.heap.size := by have := hx1.size; omega)
                | (at_builtin; refine wpList_push E_ints rfl _ _ rfl (w.heap.size + 1) rfl (owns_ext hown hx1) rfl rfl (by simp [Value.oneCell']) ?_ HSZ.out.1 HSZ.out.2 hbz; intro g cap w7 hown' hext hgr))
              go_roundw
              case rel =>
                refine ⟨jn + 1, by omega, by go_num, ?_, hext _ (hx.trans hx1) (Nat.le_succ _), ?_⟩
                · rw [HN.out, List.length_append, List.map_append]; exact hown'
                · exact kept_push hgr ((hx1.block hbl).trans hbx.out) (owns_block hown) (Nat.lt_succ_self _)
              case measure => simp [intOf]; omega
            | false =>
              cases hcnt : countsB x k jn with
              | false =>
                have HN := Lib.hid (show numsAt r button x false k (jn + 1) = numsAt r button x false k jn from numsAt_no (by simp [okB, hcnt]))
                rw [hcnt] at HCO1
                clear hcan hcm hcnt
                go_wp2_with (first
                  | (go_at_call 81; refine (HBR1.out _ hx).mono ?_; rintro e w1 ⟨rfl, hx1⟩; obtain ⟨z0, z1, z2, z3, z4, z5, z6, z7⟩ := round_cells ((hx1.block hbl).trans hbx.out); have k0 := hx1.cell k0; have k1 := hx1.cell k1; have k2 := hx1.cell k2; have k3 := hx1.cell k3; have k4 := hx1.cell k4; have k5 := hx1.cell k5)
                  | (go_at_call 82; refine (HCO1.out _).mono ?_; rintro e w2 ⟨rfl, hx2⟩; have hx12 := hx1.trans hx2))
                go_roundw
                case rel => exact ⟨jn + 1, by omega, by go_num, by rw [HN.out]; exact owns_ext hown hx12, hx.trans hx12, (hx12.block hbl).trans hbx.out⟩
                case measure => simp [intOf]; omega
              | true =>
                have HN := Lib.hid (show numsAt r button x false k (jn + 1) = numsAt r button x false k jn ++ [(k : Int) * r.per + jn] from (numsAt_yes (by simp [okB, hcan, hcnt])).trans (by rw [hcm]))
                rw [hcnt] at HCO1
                clear hcan hcm hcnt
                go_wp2_with (first
                  | (go_at_call 81; refine (HBR1.out _ hx).mono ?_; rintro e w1 ⟨rfl, hx1⟩; obtain ⟨z0, z1, z2, z3, z4, z5, z6, z7⟩ := round_cells ((hx1.block hbl).trans hbx.out); have k0 := hx1.cell k0; have k1 := hx1.cell k1; have k2 := hx1.cell k2; have k3 := hx1.cell k3; have k4 := hx1.cell k4; have k5 := hx1.cell k5)
                  | (go_at_call 82; refine (HCO1.out _).mono ?_; rintro e w2 ⟨rfl, hx2⟩; have hx12 := hx1.trans hx2; clear z0 z1 z2 z3 z4 z5 z6 z7; obtain ⟨z0, z1, z2, z3, z4, z5, z6, z7⟩ := round_cells ((hx12.block hbl).trans hbx.out); have hbz : w.heap.size + 1 ≤ w2.heap.size := by have := hx12.size; omega)
                  | (at_builtin; refine wpList_push E_ints rfl _ _ rfl (w.heap.size + 1) rfl (owns_ext hown hx12) rfl rfl (by simp [Value.oneCell']) ?_ HSZ.out.1 HSZ.out.2 hbz; intro g cap w7 hown' hext hgr))
                go_roundw
                case rel =>
                  refine ⟨jn + 1, by omega, by go_num, ?_, hext _ (hx.trans hx12) (Nat.le_succ _), ?_⟩
                  · rw [HN.out, List.length_append, List.map_append]; exact hown'
                  · exact kept_push hgr ((hx12.block hbl).trans hbx.out) (owns_block hown) (Nat.lt_succ_self _)
                case measure => simp [intOf]; omega
        · have hje : jn = r.per.toNat := by omega
          have hx2 : decide ((jn : Int) < r.per) = false := by simp; omega
          have hrow := @numsAt_row r button x free k
          rw [← hje] at hrow
          rw [hrow] at hown
          have HOWN := Lib.hid hown
          clear hje hrow hown
          go_wp2
          exact ⟨⟨k + 1, by omega, by go_num, HOWN.out, hx, hbx⟩, by simp [intOf]; omega⟩
    · have hke : k = (x.cards + 1).toNat := by omega
      have hx2 : decide ((k : Int) ≤ x.cards) = false := by simp; omega
      have hend := numsAt_end (r := r) (b := button) (h := x) (free := free) k hke
      rw [hend] at hown
      have hI := owns_lower hown (Nat.le_succ w.heap.size)
      have HFIN : Hid (CouldRes ((waysOf r button x free).map fun y => nOf r y.1 y.2) w (.returned u9) wr) := Lib.hid ⟨_, rfl, hx, hI⟩
      clear hke hend hown hI
      go_wp2
      go_ret
      exact HFIN.out
end Go.Proofs.YtpheidlocijdkaaGreatDoor

/- The reference's sums: all sums that have a number of each list, as marks. -/
namespace Go.Proofs.YtpheidlocijdkaaGreatDoor
open Go.RowKit

/-! ### In plain Lean -/
def rowN (xss : List (List Int)) (i : Nat) : List Int := xss.getD i []
def sumsP (xss : List (List Int)) : Nat → Int → Prop
  | 0, n => n = 0
  | k + 1, n => ∃ x y, sumsP xss k x ∧ y ∈ rowN xss k ∧ n = x + y
/-- What is marked when the numbers before kj of a list and the marks before nn have been gone through. -/
def nextP (P : Int → Prop) (l : List Int) (kj nn : Nat) (m : Int) : Prop := (∃ j x, j < kj ∧ P x ∧ 0 ≤ x ∧ m = x + l.getD j 0) ∨ (∃ x, P x ∧ 0 ≤ x ∧ x < nn ∧ kj < l.length ∧ m = x + l.getD kj 0)
theorem nextP_start (P : Int → Prop) (l : List Int) (m : Int) : ¬ nextP P l 0 0 m := by
  rintro (⟨j, x, h, _⟩ | ⟨x, _, h0, h1, _⟩) <;> omega
theorem nextP_yes {P : Int → Prop} {l : List Int} {kj nn : Nat} {y : Int} (hy : l[kj]? = some y) (h : P nn) (m : Int) : (nextP P l kj nn m ∨ m = nn + y) ↔ nextP P l kj (nn + 1) m := by
  have hl := (List.getElem?_eq_some_iff.1 hy).1
  have hg : l.getD kj 0 = y := by rw [List.getD_eq_getElem?_getD, hy]; rfl
  unfold nextP; rw [hg]
  constructor
  · rintro ((h1 | ⟨x, h1, h2, h3, h4, h5⟩) | rfl)
    · exact .inl h1
    · exact .inr ⟨x, h1, h2, by omega, h4, h5⟩
    · exact .inr ⟨nn, h, by omega, by omega, hl, rfl⟩
  · rintro (h1 | ⟨x, h1, h2, h3, h4, h5⟩)
    · exact .inl (.inl h1)
    · by_cases e : x = nn
      · subst e; exact .inr h5
      · exact .inl (.inr ⟨x, h1, h2, by omega, h4, h5⟩)
theorem nextP_no {P : Int → Prop} {l : List Int} {kj nn : Nat} (h : ¬ P nn) (m : Int) : nextP P l kj nn m ↔ nextP P l kj (nn + 1) m := by
  unfold nextP
  constructor
  · rintro (h1 | ⟨x, h1, h2, h3, h4, h5⟩)
    · exact .inl h1
    · exact .inr ⟨x, h1, h2, by omega, h4, h5⟩
  · rintro (h1 | ⟨x, h1, h2, h3, h4, h5⟩)
    · exact .inl h1
    · by_cases e : x = nn
      · subst e; exact absurd h1 h
      · exact .inr ⟨x, h1, h2, by omega, h4, h5⟩
theorem nextP_row {P : Int → Prop} {l : List Int} {kj nn : Nat} {y : Int} (hy : l[kj]? = some y) (hn : ¬ (nn : Int) + y < 12001) (m : Int) (hm : m ≤ 12000) : nextP P l kj nn m ↔ nextP P l (kj + 1) 0 m := by
  have hl := (List.getElem?_eq_some_iff.1 hy).1
  have hg : l.getD kj 0 = y := by rw [List.getD_eq_getElem?_getD, hy]; rfl
  unfold nextP
  constructor
  · rintro (⟨j, x, h1, h2, h3, h4⟩ | ⟨x, h1, h2, h3, h4, h5⟩)
    · exact .inl ⟨j, x, by omega, h2, h3, h4⟩
    · exact .inl ⟨kj, x, by omega, h1, h2, h5⟩
  · rintro (⟨j, x, h1, h2, h3, h4⟩ | ⟨x, h1, h2, h3, h4, h5⟩)
    · by_cases e : j = kj
      · subst e; rw [hg] at h4; exact .inr ⟨x, h2, h3, by omega, hl, by rw [hg]; exact h4⟩
      · exact .inl ⟨j, x, by omega, h2, h3, h4⟩
    · omega
theorem nextP_end {xss : List (List Int)} {k : Nat} (h0 : ∀ x, sumsP xss k x → 0 ≤ x) (m : Int) : nextP (sumsP xss k) (rowN xss k) (rowN xss k).length 0 m ↔ sumsP xss (k + 1) m := by
  unfold nextP
  constructor
  · rintro (⟨j, x, h1, h2, h3, h4⟩ | ⟨x, h1, h2, h3, h4, h5⟩)
    · refine ⟨x, _, h2, ?_, h4⟩
      rw [List.getD_eq_getElem?_getD, List.getElem?_eq_getElem h1]; exact List.getElem_mem h1
    · omega
  · rintro ⟨x, y, h1, h2, h3⟩
    obtain ⟨j, hj, rfl⟩ := List.mem_iff_getElem.1 h2
    exact .inl ⟨j, x, hj, h1, h0 x h1, by rw [List.getD_eq_getElem?_getD, List.getElem?_eq_getElem hj]; exact h3⟩
theorem sumsP_pos {xss : List (List Int)} (h : ∀ l, l ∈ xss → ∀ y, y ∈ l → 0 ≤ y) : ∀ (k : Nat) (x : Int), sumsP xss k x → 0 ≤ x
  | 0, x, hx => by have : x = 0 := hx; omega
  | k + 1, x, ⟨a, b, h1, h2, h3⟩ => by
    have ha := sumsP_pos h k a h1
    have hb : 0 ≤ b := by
      by_cases hk : k < xss.length
      · have : rowN xss k = xss[k] := by unfold rowN; simp [List.getD, hk]
        exact h _ (List.getElem_mem hk) b (this ▸ h2)
      · have : rowN xss k = [] := by unfold rowN; simp [List.getD, Nat.not_lt.1 hk]
        rw [this] at h2; simp at h2
    omega

/-! ### In memory -/
/-- A row of 12001 marks in the block g: those are set of which P is so. -/
def MarksOn (W : World) (base g : Nat) (P : Int → Prop) : Prop := ∃ xs : List Value, W.ownsRow base 4 1 (.slice (some ⟨g, 0, none⟩) 12001 12001) 12001 xs ∧ ∀ i : Nat, i < 12001 → ∃ b : Bool, xs[i]? = some (.bool b) ∧ (b = true ↔ P i)
theorem MarksOn.congr {W : World} {base g : Nat} {P Q : Int → Prop} (h : MarksOn W base g P) (hq : ∀ m, 0 ≤ m → m ≤ 12000 → (P m ↔ Q m)) : MarksOn W base g Q := by
  obtain ⟨xs, h1, h2⟩ := h
  exact ⟨xs, h1, fun i hi => by obtain ⟨b, h3, h4⟩ := h2 i hi; exact ⟨b, h3, h4.trans (hq i (by omega) (by omega))⟩⟩
theorem MarksOn.ext {W W' : World} {base g : Nat} {P : Int → Prop} (h : MarksOn W base g P) (k : Ext W W') : MarksOn W' base g P := by
  obtain ⟨xs, h1, h2⟩ := h; exact ⟨xs, owns_ext h1 k, h2⟩
theorem MarksOn.kept {W W' : World} {base g : Nat} {P : Int → Prop} {row : Option Nat} (h : MarksOn W base g P) (hg : W.grownBy W' row) (hn : some g ≠ row) : MarksOn W' base g P := by
  obtain ⟨xs, h1, h2⟩ := h; exact ⟨xs, h1.kept hg (.inr (by simpa [Value.ownBlock] using hn)), h2⟩
theorem MarksOn.lt {W : World} {base g : Nat} {P : Int → Prop} (h : MarksOn W base g P) : base ≤ g ∧ g < W.heap.size := by
  obtain ⟨xs, h1, _⟩ := h; exact World.ownsRow.lt h1 g rfl
theorem MarksOn.read {W : World} {base g : Nat} {P : Int → Prop} (h : MarksOn W base g P) (i : Nat) (hi : i < 12001) : ∃ b : Bool, W.cell? ⟨g, i, none⟩ = some (.bool b) ∧ W.frozen? ⟨g, i, none⟩ = false ∧ (b = true ↔ P i) := by
  obtain ⟨xs, h1, h2⟩ := h
  obtain ⟨b, h3, h4⟩ := h2 i hi
  exact ⟨b, (h1.cellAt i (by omega)).trans h3, h1.frozenAt i, h4⟩
theorem MarksOn.set {W : World} {base g : Nat} {P : Int → Prop} (h : MarksOn W base g P) (i : Nat) (hi : i < 12001) : MarksOn (W.setCell ⟨g, i, none⟩ (.bool true)) base g (fun m => P m ∨ m = i) ∧ W.grownBy (W.setCell ⟨g, i, none⟩ (.bool true)) (some g) := by
  obtain ⟨xs, h1, h2⟩ := h
  obtain ⟨h3, h4⟩ := h1.stored i (.bool true)
  refine ⟨⟨_, h3, fun j hj => ?_⟩, h4⟩
  obtain ⟨b, h5, h6⟩ := h2 j hj
  have hlen : i < xs.length := by
    obtain ⟨b', h5', _⟩ := h2 i hi
    exact (List.getElem?_eq_some_iff.1 h5').1
  by_cases e : j = i
  · subst e; exact ⟨true, by rw [List.getElem?_set_self hlen], by simp⟩
  · refine ⟨b, by rw [List.getElem?_set_ne (fun h => e h.symm)]; exact h5, h6.trans ⟨.inl, fun h => h.elim id (fun h => absurd (by omega) e)⟩⟩
theorem MarksOn.made {W : World} {base g : Nat} (h : W.ownsRow base 4 1 (.slice (some ⟨g, 0, none⟩) 12001 12001) 12001 (madeCells (Value.bool false).cells (12001 * 1)).toList) : MarksOn W base g (fun _ => False) := by
  refine ⟨_, h, fun i hi => ⟨false, ?_, by simp⟩⟩
  have e : (Value.bool false).cells = #[.bool false] := rfl
  rw [e, toList_madeCells_one, List.getElem?_replicate, if_pos (by omega)]
theorem info_bool : (Tryz.prog.info? 4).map (fun i => (i.zero, i.size, i.bytes)) = some (some (.bool false), 1, 1) := by kernel_rfl
def SumsRes (P : Int → Prop) (w : World) (e : Ending) (w' : World) : Prop := ∃ g, e = .returned (.slice (some ⟨g, 0, none⟩) 12001 12001) ∧ Ext w w' ∧ MarksOn w' w.heap.size g P

set_option maxRecDepth 100000 in
set_option maxHeartbeats 4000000 in
theorem rsums_any (v : Value) (xss : List (List Int)) (w : World) (hv : RowsAt w v xss) (hp : ∀ l, l ∈ xss → ∀ y, y ∈ l → 0 ≤ y ∧ y ≤ 3000) :
    Calls Tryz.prog 102 #[v] w (SumsRes (sumsP xss xss.length) w) := by
  have hpos := sumsP_pos (fun l hl y hy => (hp l hl y hy).1)
  have HPOS := Lib.hid hpos
  have HP := Lib.hid hp
  obtain ⟨a, c, rfl, r1, r2, r3⟩ := hv.open
  have R3 := Lib.hid r3
  obtain ⟨i0, hi, hz0, hz1, hz2⟩ := info_parts info_bool
  have HSB := Lib.hid (show i0.bytes * 12001 ≤ 281474976710656 ∧ 12001 ≤ maxLen by rw [hz2]; unfold maxLen; omega)
  clear r3 hpos hp hv
  go_enter Tryz.func102, Tryz.ntmps102
  go_wp2_with (refine wpList_make_full _ rfl _ _ _ rfl w.heap.size _ i0 _ 1 Tryz.underlying134 hi hz0 hz1 .i64 .i64 _ _ 12001 rfl rfl rfl rfl HSB.out.1 HSB.out.2 (Nat.le_refl _) ?_; intro w1 hown1 hg1; have hM1 := MarksOn.made hown1; obtain ⟨b1, c1, f1, _⟩ := hM1.read 0 (by omega))
  have hM2 := (hM1.set 0 (by omega)).1
  have hx1 : Ext w w1 := (Ext.refl w).grown hg1 (fun k hk => by cases hk)
  have hx2 : Ext w (w1.setCell ⟨w.heap.size, 0, none⟩ (.bool true)) := hx1.setCell (Nat.le_refl _) _
  have hM3 : MarksOn (w1.setCell ⟨w.heap.size, 0, none⟩ (.bool true)) w.heap.size w.heap.size (sumsP xss 0) := hM2.congr (fun m _ _ => by simp [sumsP])
  clear hM1 hM2 hown1 hg1 c1 f1 hx1
  go_loopw [3, 4] (fun ov i wr => ∃ k g : Nat, k ≤ xss.length ∧ i = .int .i64 k ∧ ov = .slice (some ⟨g, 0, none⟩) 12001 12001 ∧ MarksOn wr w.heap.size g (sumsP xss k) ∧ Ext w wr) (fun _ i _ => xss.length - (intOf i).toNat)
  case atStart => exact ⟨0, _, Nat.zero_le _, rfl, rfl, hM3, hx2⟩
  case round =>
    clear hM3 hx2
    obtain ⟨k, g, hk, rfl, rfl, hM, hx⟩ := hrel
    by_cases hlt : k < xss.length
    · obtain ⟨ba, oa, x, row, rfl, hrow, hcx, hrx⟩ := R3.out k hlt
      obtain ⟨a', c', rfl, q1, q2, q3⟩ := hrx.open
      have hr := hrow.out
      have hrn : rowN xss k = row := by unfold rowN; rw [List.getD_eq_getElem?_getD, hr]; rfl
      have hpr : ∀ y, y ∈ row → 0 ≤ y ∧ y ≤ 3000 := HP.out row (List.mem_of_getElem? hr)
      have Q3 := Lib.hid q3
      have HPR := Lib.hid hpr
      have HEND := Lib.hid (fun m => (nextP_end (HPOS.out k) m).mp)
      have HEND2 := Lib.hid (fun m => (nextP_end (HPOS.out k) m).mpr)
      rw [hrn] at HEND HEND2
      generalize hPk : sumsP xss k = Pk at hM HEND HEND2
      have hk0 := hx.cell hcx
      have hxs := hx.size
      have HROW := Lib.hid hcx
      clear q3 hpr hr hrn hrow hPk hcx hrx
      go_wp2_with (refine wpList_make_full _ rfl _ _ _ rfl w.heap.size _ i0 _ 1 Tryz.underlying134 hi hz0 hz1 .i64 .i64 _ _ 12001 rfl rfl rfl rfl HSB.out.1 HSB.out.2 hxs ?_; intro w3 hown3 hg3)
      have hx3 : Ext wr w3 := (Ext.refl wr).grown hg3 (fun k hk => by cases hk)
      have hN : MarksOn w3 w.heap.size wr.heap.size (nextP Pk row 0 0) := (MarksOn.made hown3).congr (fun m _ _ => ⟨fun h => h.elim, fun h => nextP_start _ _ _ h⟩)
      have hM3 := hM.ext hx3
      have hgg : g ≠ wr.heap.size := by have := hM.lt; omega
      have hgw : w.heap.size ≤ wr.heap.size := hxs
      have hx4 := hx.trans hx3
      generalize wr.heap.size = g2 at hN hgg hgw
      clear hown3 hg3 hx3 hM hx hk0 hxs
      go_loopw [6] (fun j wq => ∃ kj : Nat, kj ≤ row.length ∧ j = .int .i64 kj ∧ MarksOn wq w.heap.size g Pk ∧ MarksOn wq w.heap.size g2 (nextP Pk row kj 0) ∧ Ext w wq) (fun j _ => row.length - (intOf j).toNat)
      case atStart => exact ⟨0, Nat.zero_le _, rfl, hM3, hN, hx4⟩
      case round =>
        clear hM3 hN hx4
        obtain ⟨kj, hkj, rfl, hM, hN, hx⟩ := hrel
        have hk0 := hx.cell HROW.out
        by_cases hlk : kj < row.length
        · obtain ⟨b2, o2, y, rfl, hy, hcy⟩ := Q3.out kj hlk
          have hk1 := hx.cell hcy
          have hyr := HPR.out y (List.mem_of_getElem? hy.out)
          obtain ⟨yn, rfl⟩ := Int.eq_ofNat_of_zero_le hyr.1
          have hy3 : yn ≤ 3000 := by omega
          have x2 : decide ((kj : Int) < (row.length : Int)) = true := by simpa using hlk
          have HM := Lib.hid hM
          have HN := Lib.hid hN
          have HXQ := Lib.hid hx
          have HCY := Lib.hid hcy
          clear hyr hM hN hcy hx
          go_wp2
          obtain ⟨wp, rfl⟩ : ∃ wp : World, wp = wr := ⟨_, rfl⟩
          go_loopw [7] (fun n wz => ∃ nn : Nat, nn ≤ 12001 ∧ n = .int .i64 nn ∧ MarksOn wz w.heap.size g Pk ∧ MarksOn wz w.heap.size g2 (nextP Pk row kj nn) ∧ Ext w wz) (fun n _ => 12001 - (intOf n).toNat)
          case atStart => exact ⟨0, Nat.zero_le _, rfl, HM.out, HN.out, HXQ.out⟩
          case round =>
            clear hk0 hk1 x2
            obtain ⟨nn, hnn, rfl, hM, hN, hx⟩ := hrel
            have hk0 := hx.cell HROW.out
            have hk1 := hx.cell HCY.out
            by_cases hlt2 : nn + yn < 12001
            · have x3 : decide ((nn : Int) + (yn : Int) < 12001) = true := by simp; omega
              obtain ⟨bb, hc1, hf1, hbb⟩ := hM.read nn (by omega)
              obtain ⟨b3, hc2, hf2, _⟩ := hN.read (nn + yn) hlt2
              cases bb with
              | true =>
                have hP := hbb.1 rfl
                have hset := hN.set (nn + yn) hlt2
                have hR := Lib.hid (And.intro ((hset.1).congr (Q := nextP Pk row kj (nn + 1)) (fun m _ _ => by rw [show ((nn + yn : Nat) : Int) = (nn : Int) + (yn : Int) from Int.natCast_add nn yn]; exact nextP_yes hy.out hP m)) (And.intro (hM.kept hset.2 (by simpa using hgg)) (hx.setCell (p := ⟨g2, nn + yn, none⟩) hgw (.bool true))))
                clear hP hset hbb hM hN
                go_wp2
                go_roundw
                case rel => exact ⟨nn + 1, by omega, by go_num, hR.out.2.1, hR.out.1, hR.out.2.2⟩
                case measure => simp [intOf]; omega
              | false =>
                have hP : ¬ Pk nn := fun h => by have := hbb.2 h; cases this
                have hR := Lib.hid (hN.congr (fun m _ _ => nextP_no (l := row) (kj := kj) hP m))
                clear hP hbb hN
                go_wp2
                go_roundw
                case rel => exact ⟨nn + 1, by omega, by go_num, hM, hR.out, hx⟩
                case measure => simp [intOf]; omega
            · have x3 : decide ((nn : Int) + (yn : Int) < 12001) = false := by simp; omega
              have hR := Lib.hid (hN.congr (fun m _ hm => nextP_row hy.out (by omega) m hm))
              clear hN
              go_wp2
              exact ⟨⟨kj + 1, by omega, by go_num, hM, hR.out, hx⟩, by simp [intOf]; omega⟩
        · have hke : kj = row.length := by omega
          subst hke
          have x2 : decide ((row.length : Int) < (row.length : Int)) = false := by simp
          have hR := Lib.hid (hN.congr (fun m _ _ => ⟨HEND.out m, HEND2.out m⟩))
          clear hM hN
          go_wp2
          exact ⟨⟨k + 1, g2, by omega, by go_num, rfl, hR.out, hx⟩, by simp [intOf]; omega⟩
    · have hke : k = xss.length := by omega
      subst hke
      go_wp2
      go_ret
      exact ⟨g, rfl, hx, hM⟩
end Go.Proofs.YtpheidlocijdkaaGreatDoor
