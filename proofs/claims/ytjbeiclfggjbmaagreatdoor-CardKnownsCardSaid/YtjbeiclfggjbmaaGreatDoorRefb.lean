/- The reference's Could: what a house can have brought, as a list. -/
import Derived.Test.YtjbeiclfggjbmaaGreatDoorRefa
import Derived.Test.YtjbeiclfggjbmaaGreatDoorWays
import Derived.Test.YtjbeiclfggjbmaaGreatDoorPush
namespace Go.Proofs.YtjbeiclfggjbmaaGreatDoor
open Go.RowKit

def upTo (r : Round) (b : Int) (h : House) (free : Bool) (k : Nat) : List (Int × Int) := (List.range k).flatMap fun f => (rowOf f r.per.toNat).filter (okB r b h free)
/-- What has been found when k rows and j numbers of the next one have been gone through. -/
def numsAt (r : Round) (b : Int) (h : House) (free : Bool) (k j : Nat) : List Int := (upTo r b h free k ++ (rowOf k j).filter (okB r b h free)).map fun x => nOf r x.1 x.2
section
variable {r : Round} {b : Int} {h : House} {free : Bool}
theorem numsAt_start : numsAt r b h free 0 0 = [] := by simp [numsAt, upTo, rowOf]
theorem numsAt_row (k : Nat) : numsAt r b h free k r.per.toNat = numsAt r b h free (k + 1) 0 := by
  unfold numsAt upTo; rw [List.range_succ]; simp [rowOf]
theorem numsAt_yes {k j : Nat} (hk : okB r b h free (k, j) = true) : numsAt r b h free k (j + 1) = numsAt r b h free k j ++ [nOf r k j] := by
  unfold numsAt; rw [rowOf_succ, List.filter_append, List.filter_cons_of_pos hk]; simp
theorem numsAt_no {k j : Nat} (hk : okB r b h free (k, j) = false) : numsAt r b h free k (j + 1) = numsAt r b h free k j := by
  unfold numsAt; rw [rowOf_succ, List.filter_append, List.filter_cons_of_neg (by rw [hk]; simp)]; simp
theorem numsAt_end (k : Nat) (hk : k = (h.cards + 1).toNat) : numsAt r b h free k 0 = (waysOf r b h free).map fun x => nOf r x.1 x.2 := by
  subst hk; unfold numsAt upTo waysOf; simp [rowOf]
theorem rowOf_length (f n : Nat) : (rowOf f n).length = n := by simp [rowOf]
theorem upTo_len : ∀ k : Nat, (upTo r b h free k).length ≤ k * r.per.toNat
  | 0 => by simp [upTo]
  | k + 1 => by
    have ih := upTo_len k
    have h1 := List.length_filter_le (okB r b h free) (rowOf k r.per.toNat)
    rw [rowOf_length] at h1
    have : upTo r b h free (k + 1) = upTo r b h free k ++ (rowOf k r.per.toNat).filter (okB r b h free) := by unfold upTo; rw [List.range_succ]; simp
    rw [this, List.length_append, Nat.succ_mul]; omega
theorem numsAt_len (k j : Nat) : (numsAt r b h free k j).length ≤ k * r.per.toNat + j := by
  have h1 := List.length_filter_le (okB r b h free) (rowOf k j)
  rw [rowOf_length] at h1
  have := @upTo_len r b h free k
  unfold numsAt; rw [List.length_map, List.length_append]; omega
end
def CouldRes (xs : List Int) (w : World) (e : Ending) (w' : World) : Prop := ∃ v, e = .returned v ∧ Ext w w' ∧ w'.ownsRow w.heap.size 3 1 v xs.length (xs.map (.int .i64))
theorem owns_lower {w : World} {base base' : Nat} {e : TypeId} {size : Nat} {v : Value} {n : Nat} {xs : List Value} (h : w.ownsRow base e size v n xs) (hb : base' ≤ base) : w.ownsRow base' e size v n xs := by
  refine ⟨h.1, ?_⟩
  rcases h.2 with h1 | ⟨g, cap, cur, h1, h2, h3⟩
  · exact .inl h1
  · exact .inr ⟨g, cap, cur, h1, by omega, h3⟩

set_option maxRecDepth 100000 in
set_option maxHeartbeats 4000000 in
theorem rcould_any (v : Value) (r : Round) (i : Nat) (h : House) (button : Int) (free : Bool) (w : World) (hr : RoundAt w v r) (hB : RoundB r) (hi : r.houses[i]? = some h) (hw : r.lo ≤ button) (hw' : button ≤ r.hi) :
    Calls Tryz.prog 154 #[v, .int .i64 i, .int .i64 button, .bool free] w (CouldRes ((waysOf r button h free).map fun x => nOf r x.1 x.2) w) := by
  have hlt := (List.getElem?_eq_some_iff.1 hi).1
  have hb := hB.hs h (List.mem_of_getElem? hi)
  obtain ⟨⟨a1, a2⟩, ⟨b1, b2⟩, ⟨e1, e2⟩, ⟨d1, d2⟩, ⟨g1, g2⟩, ⟨f1, f2⟩⟩ := badHouse_iff.1 hb
  have p1 := hB.p1
  have p2 := hB.p2
  obtain ⟨hv, rfl, hh⟩ := hr
  have hr' : RoundAt w (.agg (r.cells hv).toArray) r := ⟨hv, rfl, hh⟩
  have HBR := Lib.hid (fun full loose w1 (hx : Ext w w1) => rbrought_any _ r i h button full loose w1 (hr'.ext hx) hB hi hw hw')
  have HCO := Lib.hid (fun (full loose : Nat) w1 (h1 : (full : Int) ≤ h.cards) (h2 : (loose : Int) < r.per) => rcounted_any h full loose w1 hb (by omega) (by omega) (by omega) (by omega))
  unfold Round.cells at *
  obtain ⟨a, c, rfl, h1, h2, h3⟩ := hh.open
  obtain ⟨b, o, x, rfl, hxk, c0, c1, c2, c3, c4, c5⟩ := h3 i hlt
  have hxh : x = h := by have := hxk.out; rw [hi] at this; cases this; rfl
  subst hxh
  clear h3 hh hxk hi hr' hB hb
  have hx0 : Ext w (w.alloc (.cells #[.int .i64 r.per, .int .i64 r.lo, .int .i64 r.hi, .int .i64 r.card, .int .i64 r.slack, .slice (some ⟨b, o, none⟩) r.houses.length c, .int .i64 r.all, .int .i64 r.off] 26)) := (Ext.refl w).alloc _
  have hb0 := World.alloc_heap_new w (.cells #[.int .i64 r.per, .int .i64 r.lo, .int .i64 r.hi, .int .i64 r.card, .int .i64 r.slack, .slice (some ⟨b, o, none⟩) r.houses.length c, .int .i64 r.all, .int .i64 r.off] 26)
  have HC := Lib.hid (And.intro c0 (And.intro c1 (And.intro c2 (And.intro c3 (And.intro c4 c5)))))
  clear c0 c1 c2 c3 c4 c5
  have hpt : (r.per.toNat : Int) = r.per := by omega
  go_enter Tryz.func154, Tryz.ntmps154
  go_wp2
  go_loopw [9, 10] (fun out f wr => ∃ k : Nat, (k : Int) ≤ x.cards + 1 ∧ f = .int .i64 k ∧ wr.ownsRow (w.heap.size + 1) 3 1 out (numsAt r button x free k 0).length ((numsAt r button x free k 0).map (.int .i64)) ∧ Ext w wr ∧ Hid (wr.heap[w.heap.size]? = some (.cells #[.int .i64 r.per, .int .i64 r.lo, .int .i64 r.hi, .int .i64 r.card, .int .i64 r.slack, .slice (some ⟨b, o, none⟩) r.houses.length c, .int .i64 r.all, .int .i64 r.off] 26 (0, 0)))) (fun _ f _ => (x.cards + 1 - intOf f).toNat)
  case atStart => exact ⟨0, by omega, rfl, by rw [numsAt_start]; exact World.ownsRow_nil _ _ _ _, hx0, hb0⟩
  case round =>
    clear hx0 hb0
    obtain ⟨k, hk, rfl, hown, hx, hbx⟩ := hrel
    obtain ⟨z0, z1, z2, z3, z4, z5, z6, z7⟩ := round_cells hbx.out
    have k1 := hx.cell HC.out.2.1
    by_cases hkc : (k : Int) ≤ x.cards
    · have t1 : 0 ≤ (k : Int) * r.per := Int.mul_nonneg (by omega) (by omega)
      have t2 : (k : Int) * r.per ≤ 2160 := by
        have := Int.mul_le_mul (show (k : Int) ≤ 60 by omega) p2 (by omega) (by omega : (0:Int) ≤ 60)
        omega
      have hx2 : decide ((k : Int) ≤ x.cards) = true := by simpa using hkc
      go_wp2
      obtain ⟨wo, rfl⟩ : ∃ wo : World, wo = wr := ⟨_, rfl⟩
      go_loopw [9, 11] (fun out j wr => ∃ jn : Nat, (jn : Int) ≤ r.per ∧ j = .int .i64 jn ∧ wr.ownsRow (w.heap.size + 1) 3 1 out (numsAt r button x free k jn).length ((numsAt r button x free k jn).map (.int .i64)) ∧ Ext w wr ∧ Hid (wr.heap[w.heap.size]? = some (.cells #[.int .i64 r.per, .int .i64 r.lo, .int .i64 r.hi, .int .i64 r.card, .int .i64 r.slack, .slice (some ⟨b, o, none⟩) r.houses.length c, .int .i64 r.all, .int .i64 r.off] 26 (0, 0)))) (fun _ j _ => (r.per - intOf j).toNat)
      case atStart => exact ⟨0, by omega, rfl, hown, hx, hbx⟩
      case round =>
        clear hown hx hbx z0 z1 z2 z3 z4 z5 z6 z7 k1 hx2
        obtain ⟨jn, hj, rfl, hown, hx, hbx⟩ := hrel
        obtain ⟨z0, z1, z2, z3, z4, z5, z6, z7⟩ := round_cells hbx.out
        obtain ⟨k0, k1, k2, k3, k4, k5⟩ := HC.out
        have k0 := hx.cell k0
        have k1 := hx.cell k1
        have k2 := hx.cell k2
        have k3 := hx.cell k3
        have k4 := hx.cell k4
        have k5 := hx.cell k5
        by_cases hjp : (jn : Int) < r.per
        · have hx2 : decide ((jn : Int) < r.per) = true := by simpa using hjp
          have hlen : (numsAt r button x free k jn).length ≤ 2400 := by
            have := @numsAt_len r button x free k jn
            have h60 : k ≤ 60 := by omega
            have hp36 : r.per.toNat ≤ 36 := by omega
            have := Nat.mul_le_mul h60 hp36
            omega
          have hbl := (Array.getElem?_eq_some_iff.1 hbx.out).1
          have hsz : (numsAt r button x free k jn).length + 1 ≤ maxLen ∧ ((numsAt r button x free k jn).length + 1) * 8 ≤ 140737488355328 := by unfold maxLen; omega
          have HSZ := Lib.hid hsz
          have HBR1 := Lib.hid (fun w1 hx => HBR.out k jn w1 hx)
          have HCO1 := Lib.hid (fun w1 => HCO.out k jn w1 hkc hjp)
          have hcm : nOf r k jn = (k : Int) * r.per + jn := by unfold nOf; rw [Int.mul_comm]
          clear hsz HBR HCO
          cases hcan : canB r button x k jn with
          | false =>
            have HN := Lib.hid (show numsAt r button x free k (jn + 1) = numsAt r button x free k jn from numsAt_no (by simp [okB, hcan]))
            rw [hcan] at HBR1
            clear hcan hcm
            go_wp2_with (go_at_call 138; refine (HBR1.out _ hx).mono ?_; rintro e w1 ⟨rfl, hx1⟩)
            go_roundw
            case rel => exact ⟨jn + 1, by omega, by go_num, by rw [HN.out]; exact owns_ext hown hx1, hx.trans hx1, (hx1.block hbl).trans hbx.out⟩
            case measure => simp [intOf]; omega
          | true =>
            rw [hcan] at HBR1
            cases free with
            | true =>
              have HN := Lib.hid (show numsAt r button x true k (jn + 1) = numsAt r button x true k jn ++ [(k : Int) * r.per + jn] from (numsAt_yes (by simp [okB, hcan])).trans (by rw [hcm]))
              clear hcan hcm
              go_wp2_with (first
                | (go_at_call 138; refine (HBR1.out _ hx).mono ?_; rintro e w1 ⟨rfl, hx1⟩; obtain ⟨z0, z1, z2, z3, z4, z5, z6, z7⟩ := round_cells ((hx1.block hbl).trans hbx.out); have hbz : w.heap.size + 1 ≤ w1.heap.size := by have := hx1.size; omega)
                | (at_builtin; refine wpList_push E_ints rfl _ _ rfl (w.heap.size + 1) rfl (owns_ext hown hx1) rfl rfl (by simp [Value.oneCell']) ?_ HSZ.out.1 HSZ.out.2 hbz; intro g cap w7 hown' hext hgr))
              go_roundw
              case rel =>
                refine ⟨jn + 1, by omega, by go_num, ?_, hext _ (hx.trans hx1) (Nat.le_succ _), ?_⟩
                · rw [HN.out, List.length_append, List.map_append]; exact hown'
                · exact kept_push hgr ((hx1.block hbl).trans hbx.out) (owns_block hown) (Nat.lt_succ_self _)
              case measure => simp [intOf]; omega
            | false =>
              cases hcnt : countsB x k jn with
              | false =>
                have HN := Lib.hid (show numsAt r button x false k (jn + 1) = numsAt r button x false k jn from numsAt_no (by simp [okB, hcnt]))
                rw [hcnt] at HCO1
                clear hcan hcm hcnt
                go_wp2_with (first
                  | (go_at_call 138; refine (HBR1.out _ hx).mono ?_; rintro e w1 ⟨rfl, hx1⟩; obtain ⟨z0, z1, z2, z3, z4, z5, z6, z7⟩ := round_cells ((hx1.block hbl).trans hbx.out); have k0 := hx1.cell k0; have k1 := hx1.cell k1; have k2 := hx1.cell k2; have k3 := hx1.cell k3; have k4 := hx1.cell k4; have k5 := hx1.cell k5)
                  | (go_at_call 139; refine (HCO1.out _).mono ?_; rintro e w2 ⟨rfl, hx2⟩; have hx12 := hx1.trans hx2))
                go_roundw
                case rel => exact ⟨jn + 1, by omega, by go_num, by rw [HN.out]; exact owns_ext hown hx12, hx.trans hx12, (hx12.block hbl).trans hbx.out⟩
                case measure => simp [intOf]; omega
              | true =>
                have HN := Lib.hid (show numsAt r button x false k (jn + 1) = numsAt r button x false k jn ++ [(k : Int) * r.per + jn] from (numsAt_yes (by simp [okB, hcan, hcnt])).trans (by rw [hcm]))
                rw [hcnt] at HCO1
                clear hcan hcm hcnt
                go_wp2_with (first
                  | (go_at_call 138; refine (HBR1.out _ hx).mono ?_; rintro e w1 ⟨rfl, hx1⟩; obtain ⟨z0, z1, z2, z3, z4, z5, z6, z7⟩ := round_cells ((hx1.block hbl).trans hbx.out); have k0 := hx1.cell k0; have k1 := hx1.cell k1; have k2 := hx1.cell k2; have k3 := hx1.cell k3; have k4 := hx1.cell k4; have k5 := hx1.cell k5)
                  | (go_at_call 139; refine (HCO1.out _).mono ?_; rintro e w2 ⟨rfl, hx2⟩; have hx12 := hx1.trans hx2; clear z0 z1 z2 z3 z4 z5 z6 z7; obtain ⟨z0, z1, z2, z3, z4, z5, z6, z7⟩ := round_cells ((hx12.block hbl).trans hbx.out); have hbz : w.heap.size + 1 ≤ w2.heap.size := by have := hx12.size; omega)
                  | (at_builtin; refine wpList_push E_ints rfl _ _ rfl (w.heap.size + 1) rfl (owns_ext hown hx12) rfl rfl (by simp [Value.oneCell']) ?_ HSZ.out.1 HSZ.out.2 hbz; intro g cap w7 hown' hext hgr))
                go_roundw
                case rel =>
                  refine ⟨jn + 1, by omega, by go_num, ?_, hext _ (hx.trans hx12) (Nat.le_succ _), ?_⟩
                  · rw [HN.out, List.length_append, List.map_append]; exact hown'
                  · exact kept_push hgr ((hx12.block hbl).trans hbx.out) (owns_block hown) (Nat.lt_succ_self _)
                case measure => simp [intOf]; omega
        · have hje : jn = r.per.toNat := by omega
          have hx2 : decide ((jn : Int) < r.per) = false := by simp; omega
          have hrow := @numsAt_row r button x free k
          rw [← hje] at hrow
          rw [hrow] at hown
          have HOWN := Lib.hid hown
          clear hje hrow hown
          go_wp2
          exact ⟨⟨k + 1, by omega, by go_num, HOWN.out, hx, hbx⟩, by simp [intOf]; omega⟩
    · have hke : k = (x.cards + 1).toNat := by omega
      have hx2 : decide ((k : Int) ≤ x.cards) = false := by simp; omega
      have hend := numsAt_end (r := r) (b := button) (h := x) (free := free) k hke
      rw [hend] at hown
      have hI := owns_lower hown (Nat.le_succ w.heap.size)
      have HFIN : Hid (CouldRes ((waysOf r button x free).map fun y => nOf r y.1 y.2) w (.returned u9) wr) := Lib.hid ⟨_, rfl, hx, hI⟩
      clear hke hend hown hI
      go_wp2
      go_ret
      exact HFIN.out
end Go.Proofs.YtjbeiclfggjbmaaGreatDoor
