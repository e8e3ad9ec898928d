/- The reference's sums: all sums that have a number of each list, as marks. -/
import Derived.Test.YtjbeiclfggjbmaaGreatDoorRefb
import Derived.Test.YtjbeiclfggjbmaaGreatDoorOthers
namespace Go.Proofs.YtjbeiclfggjbmaaGreatDoor
open Go.RowKit

/-! ### In plain Lean -/
def rowN (xss : List (List Int)) (i : Nat) : List Int := xss.getD i []
def sumsP (xss : List (List Int)) : Nat → Int → Prop
  | 0, n => n = 0
  | k + 1, n => ∃ x y, sumsP xss k x ∧ y ∈ rowN xss k ∧ n = x + y
/-- What is marked when the numbers before kj of a list and the marks before nn have been gone through. -/
def nextP (P : Int → Prop) (l : List Int) (kj nn : Nat) (m : Int) : Prop := (∃ j x, j < kj ∧ P x ∧ 0 ≤ x ∧ m = x + l.getD j 0) ∨ (∃ x, P x ∧ 0 ≤ x ∧ x < nn ∧ kj < l.length ∧ m = x + l.getD kj 0)
theorem nextP_start (P : Int → Prop) (l : List Int) (m : Int) : ¬ nextP P l 0 0 m := by
  rintro (⟨j, x, h, _⟩ | ⟨x, _, h0, h1, _⟩) <;> omega
theorem nextP_yes {P : Int → Prop} {l : List Int} {kj nn : Nat} {y : Int} (hy : l[kj]? = some y) (h : P nn) (m : Int) : (nextP P l kj nn m ∨ m = nn + y) ↔ nextP P l kj (nn + 1) m := by
  have hl := (List.getElem?_eq_some_iff.1 hy).1
  have hg : l.getD kj 0 = y := by rw [List.getD_eq_getElem?_getD, hy]; rfl
  unfold nextP; rw [hg]
  constructor
  · rintro ((h1 | ⟨x, h1, h2, h3, h4, h5⟩) | rfl)
    · exact .inl h1
    · exact .inr ⟨x, h1, h2, by omega, h4, h5⟩
    · exact .inr ⟨nn, h, by omega, by omega, hl, rfl⟩
  · rintro (h1 | ⟨x, h1, h2, h3, h4, h5⟩)
    · exact .inl (.inl h1)
    · by_cases e : x = nn
      · subst e; exact .inr h5
      · exact .inl (.inr ⟨x, h1, h2, by omega, h4, h5⟩)
theorem nextP_no {P : Int → Prop} {l : List Int} {kj nn : Nat} (h : ¬ P nn) (m : Int) : nextP P l kj nn m ↔ nextP P l kj (nn + 1) m := by
  unfold nextP
  constructor
  · rintro (h1 | ⟨x, h1, h2, h3, h4, h5⟩)
    · exact .inl h1
    · exact .inr ⟨x, h1, h2, by omega, h4, h5⟩
  · rintro (h1 | ⟨x, h1, h2, h3, h4, h5⟩)
    · exact .inl h1
    · by_cases e : x = nn
      · subst e; exact absurd h1 h
      · exact .inr ⟨x, h1, h2, by omega, h4, h5⟩
theorem nextP_row {P : Int → Prop} {l : List Int} {kj nn : Nat} {y : Int} (hy : l[kj]? = some y) (hn : ¬ (nn : Int) + y < 12001) (m : Int) (hm : m ≤ 12000) : nextP P l kj nn m ↔ nextP P l (kj + 1) 0 m := by
  have hl := (List.getElem?_eq_some_iff.1 hy).1
  have hg : l.getD kj 0 = y := by rw [List.getD_eq_getElem?_getD, hy]; rfl
  unfold nextP
  constructor
  · rintro (⟨j, x, h1, h2, h3, h4⟩ | ⟨x, h1, h2, h3, h4, h5⟩)
    · exact .inl ⟨j, x, by omega, h2, h3, h4⟩
    · exact .inl ⟨kj, x, by omega, h1, h2, h5⟩
  · rintro (⟨j, x, h1, h2, h3, h4⟩ | ⟨x, h1, h2, h3, h4, h5⟩)
    · by_cases e : j = kj
      · subst e; rw [hg] at h4; exact .inr ⟨x, h2, h3, by omega, hl, by rw [hg]; exact h4⟩
      · exact .inl ⟨j, x, by omega, h2, h3, h4⟩
    · omega
theorem nextP_end {xss : List (List Int)} {k : Nat} (h0 : ∀ x, sumsP xss k x → 0 ≤ x) (m : Int) : nextP (sumsP xss k) (rowN xss k) (rowN xss k).length 0 m ↔ sumsP xss (k + 1) m := by
  unfold nextP
  constructor
  · rintro (⟨j, x, h1, h2, h3, h4⟩ | ⟨x, h1, h2, h3, h4, h5⟩)
    · refine ⟨x, _, h2, ?_, h4⟩
      rw [List.getD_eq_getElem?_getD, List.getElem?_eq_getElem h1]; exact List.getElem_mem h1
    · omega
  · rintro ⟨x, y, h1, h2, h3⟩
    obtain ⟨j, hj, rfl⟩ := List.mem_iff_getElem.1 h2
    exact .inl ⟨j, x, hj, h1, h0 x h1, by rw [List.getD_eq_getElem?_getD, List.getElem?_eq_getElem hj]; exact h3⟩
theorem sumsP_pos {xss : List (List Int)} (h : ∀ l, l ∈ xss → ∀ y, y ∈ l → 0 ≤ y) : ∀ (k : Nat) (x : Int), sumsP xss k x → 0 ≤ x
  | 0, x, hx => by have : x = 0 := hx; omega
  | k + 1, x, ⟨a, b, h1, h2, h3⟩ => by
    have ha := sumsP_pos h k a h1
    have hb : 0 ≤ b := by
      by_cases hk : k < xss.length
      · have : rowN xss k = xss[k] := by unfold rowN; simp [List.getD, hk]
        exact h _ (List.getElem_mem hk) b (this ▸ h2)
      · have : rowN xss k = [] := by unfold rowN; simp [List.getD, Nat.not_lt.1 hk]
        rw [this] at h2; simp at h2
    omega

/-! ### In memory -/
/-- A row of 12001 marks in the block g: those are set of which P is so. -/
def MarksOn (W : World) (base g : Nat) (P : Int → Prop) : Prop := ∃ xs : List Value, W.ownsRow base 4 1 (.slice (some ⟨g, 0, none⟩) 12001 12001) 12001 xs ∧ ∀ i : Nat, i < 12001 → ∃ b : Bool, xs[i]? = some (.bool b) ∧ (b = true ↔ P i)
theorem MarksOn.congr {W : World} {base g : Nat} {P Q : Int → Prop} (h : MarksOn W base g P) (hq : ∀ m, 0 ≤ m → m ≤ 12000 → (P m ↔ Q m)) : MarksOn W base g Q := by
  obtain ⟨xs, h1, h2⟩ := h
  exact ⟨xs, h1, fun i hi => by obtain ⟨b, h3, h4⟩ := h2 i hi; exact ⟨b, h3, h4.trans (hq i (by omega) (by omega))⟩⟩
theorem MarksOn.ext {W W' : World} {base g : Nat} {P : Int → Prop} (h : MarksOn W base g P) (k : Ext W W') : MarksOn W' base g P := by
  obtain ⟨xs, h1, h2⟩ := h; exact ⟨xs, owns_ext h1 k, h2⟩
theorem MarksOn.kept {W W' : World} {base g : Nat} {P : Int → Prop} {row : Option Nat} (h : MarksOn W base g P) (hg : W.grownBy W' row) (hn : some g ≠ row) : MarksOn W' base g P := by
  obtain ⟨xs, h1, h2⟩ := h; exact ⟨xs, h1.kept hg (.inr (by simpa [Value.ownBlock] using hn)), h2⟩
theorem MarksOn.lt {W : World} {base g : Nat} {P : Int → Prop} (h : MarksOn W base g P) : base ≤ g ∧ g < W.heap.size := by
  obtain ⟨xs, h1, _⟩ := h; exact World.ownsRow.lt h1 g rfl
theorem MarksOn.read {W : World} {base g : Nat} {P : Int → Prop} (h : MarksOn W base g P) (i : Nat) (hi : i < 12001) : ∃ b : Bool, W.cell? ⟨g, i, none⟩ = some (.bool b) ∧ W.frozen? ⟨g, i, none⟩ = false ∧ (b = true ↔ P i) := by
  obtain ⟨xs, h1, h2⟩ := h
  obtain ⟨b, h3, h4⟩ := h2 i hi
  exact ⟨b, (h1.cellAt i (by omega)).trans h3, h1.frozenAt i, h4⟩
theorem MarksOn.set {W : World} {base g : Nat} {P : Int → Prop} (h : MarksOn W base g P) (i : Nat) (hi : i < 12001) : MarksOn (W.setCell ⟨g, i, none⟩ (.bool true)) base g (fun m => P m ∨ m = i) ∧ W.grownBy (W.setCell ⟨g, i, none⟩ (.bool true)) (some g) := by
  obtain ⟨xs, h1, h2⟩ := h
  obtain ⟨h3, h4⟩ := h1.stored i (.bool true)
  refine ⟨⟨_, h3, fun j hj => ?_⟩, h4⟩
  obtain ⟨b, h5, h6⟩ := h2 j hj
  have hlen : i < xs.length := by
    obtain ⟨b', h5', _⟩ := h2 i hi
    exact (List.getElem?_eq_some_iff.1 h5').1
  by_cases e : j = i
  · subst e; exact ⟨true, by rw [List.getElem?_set_self hlen], by simp⟩
  · refine ⟨b, by rw [List.getElem?_set_ne (fun h => e h.symm)]; exact h5, h6.trans ⟨.inl, fun h => h.elim id (fun h => absurd (by omega) e)⟩⟩
theorem MarksOn.made {W : World} {base g : Nat} (h : W.ownsRow base 4 1 (.slice (some ⟨g, 0, none⟩) 12001 12001) 12001 (madeCells (Value.bool false).cells (12001 * 1)).toList) : MarksOn W base g (fun _ => False) := by
  refine ⟨_, h, fun i hi => ⟨false, ?_, by simp⟩⟩
  have e : (Value.bool false).cells = #[.bool false] := rfl
  rw [e, toList_madeCells_one, List.getElem?_replicate, if_pos (by omega)]
theorem info_bool : (Tryz.prog.info? 4).map (fun i => (i.zero, i.size, i.bytes)) = some (some (.bool false), 1, 1) := by kernel_rfl
def SumsRes (P : Int → Prop) (w : World) (e : Ending) (w' : World) : Prop := ∃ g, e = .returned (.slice (some ⟨g, 0, none⟩) 12001 12001) ∧ Ext w w' ∧ MarksOn w' w.heap.size g P

set_option maxRecDepth 100000 in
set_option maxHeartbeats 4000000 in
theorem rsums_any (v : Value) (xss : List (List Int)) (w : World) (hv : RowsAt w v xss) (hp : ∀ l, l ∈ xss → ∀ y, y ∈ l → 0 ≤ y ∧ y ≤ 3000) :
    Calls Tryz.prog 155 #[v] w (SumsRes (sumsP xss xss.length) w) := by
  have hpos := sumsP_pos (fun l hl y hy => (hp l hl y hy).1)
  have HPOS := Lib.hid hpos
  have HP := Lib.hid hp
  obtain ⟨a, c, rfl, r1, r2, r3⟩ := hv.open
  have R3 := Lib.hid r3
  obtain ⟨i0, hi, hz0, hz1, hz2⟩ := info_parts info_bool
  have HSB := Lib.hid (show i0.bytes * 12001 ≤ 281474976710656 ∧ 12001 ≤ maxLen by rw [hz2]; unfold maxLen; omega)
  clear r3 hpos hp hv
  go_enter Tryz.func155, Tryz.ntmps155
  go_wp2_with (refine wpList_make_full _ rfl _ _ _ rfl w.heap.size _ i0 _ 1 Tryz.underlying167 hi hz0 hz1 .i64 .i64 _ _ 12001 rfl rfl rfl rfl HSB.out.1 HSB.out.2 (Nat.le_refl _) ?_; intro w1 hown1 hg1; have hM1 := MarksOn.made hown1; obtain ⟨b1, c1, f1, _⟩ := hM1.read 0 (by omega))
  have hM2 := (hM1.set 0 (by omega)).1
  have hx1 : Ext w w1 := (Ext.refl w).grown hg1 (fun k hk => by cases hk)
  have hx2 : Ext w (w1.setCell ⟨w.heap.size, 0, none⟩ (.bool true)) := hx1.setCell (Nat.le_refl _) _
  have hM3 : MarksOn (w1.setCell ⟨w.heap.size, 0, none⟩ (.bool true)) w.heap.size w.heap.size (sumsP xss 0) := hM2.congr (fun m _ _ => by simp [sumsP])
  clear hM1 hM2 hown1 hg1 c1 f1 hx1
  go_loopw [3, 4] (fun ov i wr => ∃ k g : Nat, k ≤ xss.length ∧ i = .int .i64 k ∧ ov = .slice (some ⟨g, 0, none⟩) 12001 12001 ∧ MarksOn wr w.heap.size g (sumsP xss k) ∧ Ext w wr) (fun _ i _ => xss.length - (intOf i).toNat)
  case atStart => exact ⟨0, _, Nat.zero_le _, rfl, rfl, hM3, hx2⟩
  case round =>
    clear hM3 hx2
    obtain ⟨k, g, hk, rfl, rfl, hM, hx⟩ := hrel
    by_cases hlt : k < xss.length
    · obtain ⟨ba, oa, x, row, rfl, hrow, hcx, hrx⟩ := R3.out k hlt
      obtain ⟨a', c', rfl, q1, q2, q3⟩ := hrx.open
      have hr := hrow.out
      have hrn : rowN xss k = row := by unfold rowN; rw [List.getD_eq_getElem?_getD, hr]; rfl
      have hpr : ∀ y, y ∈ row → 0 ≤ y ∧ y ≤ 3000 := HP.out row (List.mem_of_getElem? hr)
      have Q3 := Lib.hid q3
      have HPR := Lib.hid hpr
      have HEND := Lib.hid (fun m => (nextP_end (HPOS.out k) m).mp)
      have HEND2 := Lib.hid (fun m => (nextP_end (HPOS.out k) m).mpr)
      rw [hrn] at HEND HEND2
      generalize hPk : sumsP xss k = Pk at hM HEND HEND2
      have hk0 := hx.cell hcx
      have hxs := hx.size
      have HROW := Lib.hid hcx
      clear q3 hpr hr hrn hrow hPk hcx hrx
      go_wp2_with (refine wpList_make_full _ rfl _ _ _ rfl w.heap.size _ i0 _ 1 Tryz.underlying167 hi hz0 hz1 .i64 .i64 _ _ 12001 rfl rfl rfl rfl HSB.out.1 HSB.out.2 hxs ?_; intro w3 hown3 hg3)
      have hx3 : Ext wr w3 := (Ext.refl wr).grown hg3 (fun k hk => by cases hk)
      have hN : MarksOn w3 w.heap.size wr.heap.size (nextP Pk row 0 0) := (MarksOn.made hown3).congr (fun m _ _ => ⟨fun h => h.elim, fun h => nextP_start _ _ _ h⟩)
      have hM3 := hM.ext hx3
      have hgg : g ≠ wr.heap.size := by have := hM.lt; omega
      have hgw : w.heap.size ≤ wr.heap.size := hxs
      have hx4 := hx.trans hx3
      generalize wr.heap.size = g2 at hN hgg hgw
      clear hown3 hg3 hx3 hM hx hk0 hxs
      go_loopw [6] (fun j wq => ∃ kj : Nat, kj ≤ row.length ∧ j = .int .i64 kj ∧ MarksOn wq w.heap.size g Pk ∧ MarksOn wq w.heap.size g2 (nextP Pk row kj 0) ∧ Ext w wq) (fun j _ => row.length - (intOf j).toNat)
      case atStart => exact ⟨0, Nat.zero_le _, rfl, hM3, hN, hx4⟩
      case round =>
        clear hM3 hN hx4
        obtain ⟨kj, hkj, rfl, hM, hN, hx⟩ := hrel
        have hk0 := hx.cell HROW.out
        by_cases hlk : kj < row.length
        · obtain ⟨b2, o2, y, rfl, hy, hcy⟩ := Q3.out kj hlk
          have hk1 := hx.cell hcy
          have hyr := HPR.out y (List.mem_of_getElem? hy.out)
          obtain ⟨yn, rfl⟩ := Int.eq_ofNat_of_zero_le hyr.1
          have hy3 : yn ≤ 3000 := by omega
          have x2 : decide ((kj : Int) < (row.length : Int)) = true := by simpa using hlk
          have HM := Lib.hid hM
          have HN := Lib.hid hN
          have HXQ := Lib.hid hx
          have HCY := Lib.hid hcy
          clear hyr hM hN hcy hx
          go_wp2
          obtain ⟨wp, rfl⟩ : ∃ wp : World, wp = wr := ⟨_, rfl⟩
          go_loopw [7] (fun n wz => ∃ nn : Nat, nn ≤ 12001 ∧ n = .int .i64 nn ∧ MarksOn wz w.heap.size g Pk ∧ MarksOn wz w.heap.size g2 (nextP Pk row kj nn) ∧ Ext w wz) (fun n _ => 12001 - (intOf n).toNat)
          case atStart => exact ⟨0, Nat.zero_le _, rfl, HM.out, HN.out, HXQ.out⟩
          case round =>
            clear hk0 hk1 x2
            obtain ⟨nn, hnn, rfl, hM, hN, hx⟩ := hrel
            have hk0 := hx.cell HROW.out
            have hk1 := hx.cell HCY.out
            by_cases hlt2 : nn + yn < 12001
            · have x3 : decide ((nn : Int) + (yn : Int) < 12001) = true := by simp; omega
              obtain ⟨bb, hc1, hf1, hbb⟩ := hM.read nn (by omega)
              obtain ⟨b3, hc2, hf2, _⟩ := hN.read (nn + yn) hlt2
              cases bb with
              | true =>
                have hP := hbb.1 rfl
                have hset := hN.set (nn + yn) hlt2
                have hR := Lib.hid (And.intro ((hset.1).congr (Q := nextP Pk row kj (nn + 1)) (fun m _ _ => by rw [show ((nn + yn : Nat) : Int) = (nn : Int) + (yn : Int) from Int.natCast_add nn yn]; exact nextP_yes hy.out hP m)) (And.intro (hM.kept hset.2 (by simpa using hgg)) (hx.setCell (p := ⟨g2, nn + yn, none⟩) hgw (.bool true))))
                clear hP hset hbb hM hN
                go_wp2
                go_roundw
                case rel => exact ⟨nn + 1, by omega, by go_num, hR.out.2.1, hR.out.1, hR.out.2.2⟩
                case measure => simp [intOf]; omega
              | false =>
                have hP : ¬ Pk nn := fun h => by have := hbb.2 h; cases this
                have hR := Lib.hid (hN.congr (fun m _ _ => nextP_no (l := row) (kj := kj) hP m))
                clear hP hbb hN
                go_wp2
                go_roundw
                case rel => exact ⟨nn + 1, by omega, by go_num, hM, hR.out, hx⟩
                case measure => simp [intOf]; omega
            · have x3 : decide ((nn : Int) + (yn : Int) < 12001) = false := by simp; omega
              have hR := Lib.hid (hN.congr (fun m _ hm => nextP_row hy.out (by omega) m hm))
              clear hN
              go_wp2
              exact ⟨⟨kj + 1, by omega, by go_num, hM, hR.out, hx⟩, by simp [intOf]; omega⟩
        · have hke : kj = row.length := by omega
          subst hke
          have x2 : decide ((row.length : Int) < (row.length : Int)) = false := by simp
          have hR := Lib.hid (hN.congr (fun m _ _ => ⟨HEND.out m, HEND2.out m⟩))
          clear hM hN
          go_wp2
          exact ⟨⟨k + 1, g2, by omega, by go_num, rfl, hR.out, hx⟩, by simp [intOf]; omega⟩
    · have hke : k = xss.length := by omega
      subst hke
      go_wp2
      go_ret
      exact ⟨g, rfl, hx, hM⟩
end Go.Proofs.YtjbeiclfggjbmaaGreatDoor
