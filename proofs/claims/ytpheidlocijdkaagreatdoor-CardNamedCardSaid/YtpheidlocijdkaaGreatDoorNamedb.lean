/- The law's has; a round of which one house counted right. -/
import Derived.Test.YtpheidlocijdkaaGreatDoorBought
import Derived.Test.YtpheidlocijdkaaGreatDoorRunsb
import Derived.Test.YtpheidlocijdkaaGreatDoorNumb
namespace Go.Proofs.YtpheidlocijdkaaGreatDoor
open Go.RowKit

theorem not_mem_take {l : List Int} {n : Int} {k : Nat} {x : Int} (hx : l[k]? = some x) (h : n ∉ l.take k) (hn : ¬ x = n) : n ∉ l.take (k + 1) := by
  rw [List.take_add_one, hx, List.mem_append]
  rintro (h1 | h1)
  · exact h h1
  · have h2 : n = x := by simpa using h1
    exact hn h2.symm
set_option maxHeartbeats 1000000 in
theorem has_any (v : Value) (l : List Int) (n : Int) (w : World) (hv : IntsAt w v l) (hl : l.length ≤ 19) :
    Calls Tryz.prog 38 #[v, .int .i64 n] w fun e w' => e = .returned (.bool (decide (n ∈ l))) ∧ Ext w w' := by
  obtain ⟨a, c, rfl, h1, h2, h3⟩ := hv.open
  have H3 := Lib.hid h3
  clear h3 hv
  go_enter Tryz.func38, Tryz.ntmps38
  go_wp2
  go_loopw [5] (fun i wr => ∃ k : Nat, k ≤ l.length ∧ i = .int .i64 k ∧ Hid (n ∉ l.take k) ∧ w = wr) (fun i _ => l.length - (intOf i).toNat)
  case atStart => exact ⟨0, Nat.zero_le _, rfl, by simp [Hid], rfl⟩
  case round =>
    obtain ⟨k, hk, rfl, hno, rfl⟩ := hrel
    by_cases hlt : k < l.length
    · obtain ⟨b, o, x, rfl, hxk, hc⟩ := H3.out k hlt
      have x2 : decide ((k : Int) < (l.length : Int)) = true := by simpa using hlt
      have x3 : decide ((k : Int) < 20) = true := by simp; omega
      by_cases he : x = n
      · subst he
        have HM : Hid (decide (x ∈ l) = true) := by unfold Hid; rw [decide_eq_true_eq]; exact List.mem_of_getElem? hxk.out
        have t1 : (x == x) = true := by simp
        go_wp2
        go_ret
        exact ⟨by rw [HM.out] <;> rfl, Ext.refl _⟩
      · have HN := Lib.hid (not_mem_take hxk.out hno.out he)
        have t1 : (x == n) = false := by rw [beq_eq_false_iff_ne]; exact he
        clear he
        go_wp2
        go_roundw
        case rel => exact ⟨k + 1, by omega, by go_num, HN, by trivial⟩
        case measure => simp [intOf]; omega
    · have x2 : decide ((k : Int) < (l.length : Int)) = false := by simp; omega
      have HM : Hid (decide (n ∈ l) = false) := by
        have h := hno.out
        rw [List.take_of_length_le (by omega)] at h
        unfold Hid; rw [decide_eq_false_iff_not]; exact h
      go_wp2
      go_ret
      exact ⟨by rw [HM.out] <;> rfl, Ext.refl _⟩

theorem info_house : (Tryz.prog.info? 58).map (fun i => (i.zero, i.size, i.bytes)) = some (some (.agg #[.int .i64 0, .int .i64 0, .int .i64 0, .int .i64 0, .int .i64 0, .int .i64 0]), 6, 48) := by kernel_rfl
theorem E_houses : Elem Tryz.prog 24 58 6 48 (.agg #[.int .i64 0, .int .i64 0, .int .i64 0, .int .i64 0, .int .i64 0, .int .i64 0]) := by
  obtain ⟨i, h1, h2, h3, h4⟩ := info_parts info_house
  exact ⟨Tryz.underlying24, ⟨i, h1, h2, h3, h4⟩, rfl, by decide⟩
theorem houses_one (hs : List House) : ∀ u ∈ hs.flatMap House.cells, u.oneCell' = true := by
  intro u hu
  obtain ⟨h, _, hu⟩ := List.mem_flatMap.1 hu
  simp only [House.cells, List.mem_cons, List.not_mem_nil, or_false] at hu
  rcases hu with rfl | rfl | rfl | rfl | rfl | rfl <;> rfl
theorem houses_len (hs : List House) : (hs.flatMap House.cells).length = hs.length * 6 := len_flat hs
theorem set_flat : ∀ (hs : List House) (k : Nat) (h : House) (f l : Int), hs[k]? = some h →
    ((hs.flatMap House.cells).set (k * 6 + 2) (.int .i64 f)).set (k * 6 + 3) (.int .i64 l) = (hs.set k { h with full := f, loose := l }).flatMap House.cells
  | [], k, h, f, l, hk => by simp at hk
  | y :: hs, 0, h, f, l, hk => by
    simp only [List.getElem?_cons_zero, Option.some.injEq] at hk
    subst hk
    simp [House.cells]
  | y :: hs, k + 1, h, f, l, hk => by
    simp only [List.getElem?_cons_succ] at hk
    have ih := set_flat hs k h f l hk
    have hc : y.cells.length = 6 := rfl
    simp only [List.flatMap_cons, List.set_cons_succ]
    rw [List.set_append_right _ _ (by rw [hc]; omega), hc, show (k + 1) * 6 + 2 - 6 = k * 6 + 2 by omega, List.set_append_right _ _ (by rw [hc]; omega), hc, show (k + 1) * 6 + 3 - 6 = k * 6 + 3 by omega, ih]
theorem right_round {r : Round} {x : Truth} {k : Nat} {h : House} (hb : isRoundB r = true) (hk : r.houses[k]? = some h) (hbg : boughtB r h (x.full.getD k 0) (x.loose.getD k 0) = true) : isRoundB (rightR r x k) = true := by
  have hB := roundB_of hb
  have hlt := (List.getElem?_eq_some_iff.1 hk).1
  have hgh : r.houses.getD k noHouse = h := by rw [List.getD_eq_getElem?_getD, hk]; rfl
  rw [isRoundB_iff] at hb ⊢
  obtain ⟨g1, g2, g3, g4, g5, g6, g7, g8, g9, g10⟩ := hb
  refine ⟨g1, g2, g3, g4, g5, g6, by simpa [rightR] using g7, g8, g9, ?_⟩
  have p2 := hB.p2
  unfold boughtB at hbg
  simp only [Bool.and_eq_true, decide_eq_true_eq] at hbg
  obtain ⟨⟨⟨b1, b2⟩, b3⟩, b4⟩ := hbg
  intro y hy
  obtain ⟨i, hi, rfl⟩ := List.mem_iff_getElem.1 hy
  simp only [rightR, List.getElem_set] at *
  split
  · have h1 := badHouse_iff.1 (g10 h (List.mem_of_getElem? hk))
    rw [hgh]
    have : badHouse { h with full := x.full.getD k 0, loose := x.loose.getD k 0 } = false := by
      rw [badHouse_iff]
      obtain ⟨q1, q2, q3, q4, q5, q6⟩ := h1
      exact ⟨q1, q2, ⟨b1, by show x.full.getD k 0 ≤ 60; omega⟩, ⟨b3, by show x.loose.getD k 0 ≤ 36; omega⟩, q5, q6⟩
    exact this
  · exact g10 _ (List.getElem_mem _)
theorem right_truth {r : Round} {x : Truth} {k : Nat} : truthB (rightR r x k) x = truthB r x := by unfold truthB; simp [rightR]
theorem wrong_mem {r : Round} {k : Nat} (hk : k < r.houses.length) (ha : agreeB r (k : Int) = true) : (k : Int) ∈ wrongL r := by
  unfold wrongL wrongUp
  rw [List.mem_map]
  exact ⟨k, List.mem_filter.2 ⟨List.mem_range.2 hk, ha⟩, rfl⟩
theorem wrong_len (r : Round) : (wrongL r).length ≤ r.houses.length := by
  unfold wrongL wrongUp
  rw [List.length_map]
  exact Nat.le_trans (List.length_filter_le _ _) (by simp)
theorem cell_set_ne {W : World} {g o : Nat} {u : Value} {b p : Nat} (h : b ≠ g) : (W.setCell ⟨g, o, none⟩ u).cell? ⟨b, p, none⟩ = W.cell? ⟨b, p, none⟩ :=
  World.cell?_setCell_other _ _ _ _ (fun e => h (congrArg Addr.block e).symm)
end Go.Proofs.YtpheidlocijdkaaGreatDoor
