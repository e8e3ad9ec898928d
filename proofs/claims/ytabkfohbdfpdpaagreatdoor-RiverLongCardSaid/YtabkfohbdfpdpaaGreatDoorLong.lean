/- The law RiverLong. -/
import Derived.Test.YtabkfohbdfpdpaaGreatDoorLengths
import Derived.Test.YtabkfohbdfpdpaaGreatDoorReft
namespace Go.Proofs.YtabkfohbdfpdpaaGreatDoor
open Go.RowKit

/-! ### In plain Lean -/
theorem sumFrom_mono {f : Int → Int} {y : Int} : ∀ {m n : Nat}, m ≤ n → (∀ k : Nat, k < n → 0 ≤ f (y + k)) → sumFrom f y m ≤ sumFrom f y n
  | m, 0, h, _ => by have : m = 0 := by omega
                     subst this; exact Int.le_refl _
  | m, n + 1, h, hf => by
    rcases Nat.lt_or_ge m (n + 1) with h1 | h1
    · have h2 := sumFrom_mono (f := f) (y := y) (m := m) (n := n) (by omega) (fun k hk => hf k (by omega))
      have h3 := hf n (by omega)
      simp only [sumFrom]; omega
    · have : m = n + 1 := by omega
      subst this; exact Int.le_refl _
theorem least_pos {b : Book} (hB : BookB b) {r : Nat} (hr : r < b.rivers.length) {y : Int} (h0 : 0 ≤ y) (h : y < b.years) : 0 ≤ leastOf b r y := by
  obtain ⟨n, rfl⟩ : ∃ n : Nat, y = n := ⟨y.toNat, by omega⟩
  obtain ⟨_, _, _, _, _, _, h1, _⟩ := year_range hB (List.getElem?_eq_getElem hr) (y := n) h
  exact h1
theorem ripe_some_iff {b : Book} {r y size : Int} {k : Nat} (h : ripeOf b r y size = some k) : k < (b.years - y).toNat ∧ size ≤ sumFrom (leastOf b r) y (k + 1) ∧ ∀ j, j < k → sumFrom (leastOf b r) y (j + 1) < size := by
  unfold ripeOf at h
  rw [List.find?_range_eq_some] at h
  obtain ⟨h1, h2, h3⟩ := h
  refine ⟨by simpa using h2, by simpa using h1, fun j hj => ?_⟩
  have := h3 j hj
  simpa using this
theorem ripe_none_iff {b : Book} {r y size : Int} (h : ripeOf b r y size = none) : ∀ j, j < (b.years - y).toNat → sumFrom (leastOf b r) y (j + 1) < size := by
  unfold ripeOf at h
  intro j hj
  have := (List.find?_eq_none.1 h) j (List.mem_range.2 hj)
  simpa using this
set_option maxRecDepth 100000 in
set_option maxHeartbeats 16000000 in
theorem riverLong_any (v : Value) (b : Book) (r y z : Int) (wv : Value) (we : List (List Int)) (vv : Value) (va : List Int) (n : Int) (w : World) (hb : BookAt w v b) (hw : IntRowsAt w wv we) (hv : IntsAt w vv va) (ht : TabOk w) :
    Calls Tryz.prog 5 #[v, .int .i64 r, .int .i64 y, .int .i64 z, wv, vv, .int .i64 n] w (TrueP w) := by
  have HB := Lib.hid (LawB.of hb ht)
  have HBB := Lib.hid (fun w1 (h : Ext w w1) => hb.ext h)
  have HRV := Lib.hid (fun n w1 (h : Ext w w1) => rriver_any v b n w1 (hb.ext h))
  have HSR := Lib.hid (fun w1 (h : Ext w w1) => short_any (.agg #[wv, .slice none 0 0]) ⟨we, []⟩ w1 ⟨_, _, rfl, hw.ext h, RowOf.nil _ _⟩)
  have HTR := Lib.hid (fun w1 (h : Ext w w1) => rtruth_any v (.agg #[.slice none 0 0, .slice none 0 0]) (.agg #[wv, .slice none 0 0]) b ⟨[], []⟩ ⟨we, []⟩ w1 (hb.ext h) ⟨_, _, rfl, ⟨[], rfl, RowOf.nil _ _, fun x hx => by simp at hx⟩, RowOf.nil _ _⟩ ⟨_, _, rfl, hw.ext h, RowOf.nil _ _⟩)
  have HRR := Lib.hid hb
  obtain ⟨ra, rc, rfl, hr0⟩ := hb.slice
  obtain ⟨_, _, hvr, r1, r2, r3⟩ := hr0.open
  cases hvr
  obtain ⟨wa, wc, rfl, w1l, w2l, w3⟩ := hw.open
  obtain ⟨ea, ec, rfl, e1l, e2l, e3⟩ := hv.open
  have HR3 := Lib.hid r3
  have HW3 := Lib.hid w3
  have HE3 := Lib.hid e3
  have HX0 := Lib.hid ((Ext.refl w).alloc _ : Ext w (w.alloc (.cells #[.int .i64 b.years, .slice ra b.rivers.length rc] 24)))
  have HS := Lib.hid (fun W (h : Ext (w.alloc (.cells #[.int .i64 b.years, .slice ra b.rivers.length rc] 24)) W) => (⟨h.cell (by go_simp), h.cell (by go_simp)⟩ : W.cell? ⟨w.heap.size, 0, none⟩ = some (.int .i64 b.years) ∧ W.cell? ⟨w.heap.size, 1, none⟩ = some (.slice ra b.rivers.length rc)))
  have hmix : Tryz.prog.follows .mixedOrders = true := by kernel_rfl
  clear hb ht hw hv hr0 r3 w3 e3
  cases h1 : slimB b with
  | false =>
    go_enter Tryz.func5, Tryz.ntmps5
    go_wp2_with (first | (go_at_call 11; refine (HB.out.slim _ HX0.out).mono ?_; rintro e w1 ⟨rfl, hq⟩; obtain ⟨z0, z1⟩ := HS.out _ hq) | (go_at_call 16; refine (HB.out.known _ (HX0.out.trans hq)).mono ?_; rintro e w4 ⟨rfl, hx4⟩))
    go_ret
    exact ⟨rfl, (HX0.out.trans hq).trans hx4⟩
  | true =>
    cases h2 : shortB ⟨we, []⟩ with
    | false =>
      go_enter Tryz.func5, Tryz.ntmps5
      go_wp2_with (first | (go_at_call 11; refine (HB.out.slim _ HX0.out).mono ?_; rintro e w1 ⟨rfl, hq⟩; obtain ⟨z0, z1⟩ := HS.out _ hq) | (go_at_call 13; refine (HSR.out _ (HX0.out.trans hq)).mono ?_; rintro e w1 ⟨rfl, hx1⟩; replace hq := hq.trans hx1; clear hx1 z0 z1; obtain ⟨z0, z1⟩ := HS.out _ hq) | (go_at_call 16; refine (HB.out.known _ (HX0.out.trans hq)).mono ?_; rintro e w4 ⟨rfl, hx4⟩))
      go_ret
      exact ⟨rfl, (HX0.out.trans hq).trans hx4⟩
    | true =>
      by_cases h3 : 8 < va.length
      · have t3 : decide ((8 : Int) < (va.length : Int)) = true := by simp; omega
        go_enter Tryz.func5, Tryz.ntmps5
        go_wp2_with (first | (go_at_call 11; refine (HB.out.slim _ HX0.out).mono ?_; rintro e w1 ⟨rfl, hq⟩; obtain ⟨z0, z1⟩ := HS.out _ hq) | (go_at_call 13; refine (HSR.out _ (HX0.out.trans hq)).mono ?_; rintro e w1 ⟨rfl, hx1⟩; replace hq := hq.trans hx1; clear hx1 z0 z1; obtain ⟨z0, z1⟩ := HS.out _ hq) | (go_at_call 16; refine (HB.out.known _ (HX0.out.trans hq)).mono ?_; rintro e w4 ⟨rfl, hx4⟩))
        go_ret
        exact ⟨rfl, (HX0.out.trans hq).trans hx4⟩
      · have t3 : decide ((8 : Int) < (va.length : Int)) = false := by simp; omega
        cases h4 : isBookB b with
        | false =>
          go_enter Tryz.func5, Tryz.ntmps5
          go_wp2_with (first | (go_at_call 11; refine (HB.out.slim _ HX0.out).mono ?_; rintro e w1 ⟨rfl, hq⟩; obtain ⟨z0, z1⟩ := HS.out _ hq) | (go_at_call 13; refine (HSR.out _ (HX0.out.trans hq)).mono ?_; rintro e w1 ⟨rfl, hx1⟩; replace hq := hq.trans hx1; clear hx1 z0 z1; obtain ⟨z0, z1⟩ := HS.out _ hq) | (go_at_call 12; refine (HB.out.book _ (HX0.out.trans hq)).mono ?_; rintro e w1 ⟨rfl, hx1⟩; replace hq := hq.trans hx1; clear hx1 z0 z1; obtain ⟨z0, z1⟩ := HS.out _ hq) | (go_at_call 16; refine (HB.out.known _ (HX0.out.trans hq)).mono ?_; rintro e w4 ⟨rfl, hx4⟩))
          go_ret
          exact ⟨rfl, (HX0.out.trans hq).trans hx4⟩
        | true =>
          have hB := bookB_of h4
          have HYR := Lib.hid (fun m w1 (h : Ext w w1) => ryear_any _ b m w1 (HBB.out w1 h) hB.y1 hB.y2)
          have HBO := Lib.hid hB
          clear hB
          cases h5 : isRiverB b r with
          | false =>
            go_enter Tryz.func5, Tryz.ntmps5
            go_wp2_with (first | (go_at_call 11; refine (HB.out.slim _ HX0.out).mono ?_; rintro e w1 ⟨rfl, hq⟩; obtain ⟨z0, z1⟩ := HS.out _ hq) | (go_at_call 13; refine (HSR.out _ (HX0.out.trans hq)).mono ?_; rintro e w1 ⟨rfl, hx1⟩; replace hq := hq.trans hx1; clear hx1 z0 z1; obtain ⟨z0, z1⟩ := HS.out _ hq) | (go_at_call 12; refine (HB.out.book _ (HX0.out.trans hq)).mono ?_; rintro e w1 ⟨rfl, hx1⟩; replace hq := hq.trans hx1; clear hx1 z0 z1; obtain ⟨z0, z1⟩ := HS.out _ hq) | (go_at_call 23; refine (HRV.out _ _ (HX0.out.trans hq)).mono ?_; rintro e w1 ⟨rfl, hx1⟩; replace hq := hq.trans hx1; clear hx1 z0 z1; obtain ⟨z0, z1⟩ := HS.out _ hq) | (go_at_call 16; refine (HB.out.known _ (HX0.out.trans hq)).mono ?_; rintro e w4 ⟨rfl, hx4⟩))
            go_ret
            exact ⟨rfl, (HX0.out.trans hq).trans hx4⟩
          | true =>
            cases h6 : isYearB b y with
            | false =>
              go_enter Tryz.func5, Tryz.ntmps5
              go_wp2_with (first | (go_at_call 11; refine (HB.out.slim _ HX0.out).mono ?_; rintro e w1 ⟨rfl, hq⟩; obtain ⟨z0, z1⟩ := HS.out _ hq) | (go_at_call 13; refine (HSR.out _ (HX0.out.trans hq)).mono ?_; rintro e w1 ⟨rfl, hx1⟩; replace hq := hq.trans hx1; clear hx1 z0 z1; obtain ⟨z0, z1⟩ := HS.out _ hq) | (go_at_call 12; refine (HB.out.book _ (HX0.out.trans hq)).mono ?_; rintro e w1 ⟨rfl, hx1⟩; replace hq := hq.trans hx1; clear hx1 z0 z1; obtain ⟨z0, z1⟩ := HS.out _ hq) | (go_at_call 23; refine (HRV.out _ _ (HX0.out.trans hq)).mono ?_; rintro e w1 ⟨rfl, hx1⟩; replace hq := hq.trans hx1; clear hx1 z0 z1; obtain ⟨z0, z1⟩ := HS.out _ hq) | (go_at_call 24; refine (HYR.out _ _ (HX0.out.trans hq)).mono ?_; rintro e w1 ⟨rfl, hx1⟩; replace hq := hq.trans hx1; clear hx1 z0 z1; obtain ⟨z0, z1⟩ := HS.out _ hq) | (go_at_call 16; refine (HB.out.known _ (HX0.out.trans hq)).mono ?_; rintro e w4 ⟨rfl, hx4⟩))
              go_ret
              exact ⟨rfl, (HX0.out.trans hq).trans hx4⟩
            | true =>
              cases h7 : isYearB b z with
              | false =>
                go_enter Tryz.func5, Tryz.ntmps5
                go_wp2_with (first | (go_at_call 11; refine (HB.out.slim _ HX0.out).mono ?_; rintro e w1 ⟨rfl, hq⟩; obtain ⟨z0, z1⟩ := HS.out _ hq) | (go_at_call 13; refine (HSR.out _ (HX0.out.trans hq)).mono ?_; rintro e w1 ⟨rfl, hx1⟩; replace hq := hq.trans hx1; clear hx1 z0 z1; obtain ⟨z0, z1⟩ := HS.out _ hq) | (go_at_call 12; refine (HB.out.book _ (HX0.out.trans hq)).mono ?_; rintro e w1 ⟨rfl, hx1⟩; replace hq := hq.trans hx1; clear hx1 z0 z1; obtain ⟨z0, z1⟩ := HS.out _ hq) | (go_at_call 23; refine (HRV.out _ _ (HX0.out.trans hq)).mono ?_; rintro e w1 ⟨rfl, hx1⟩; replace hq := hq.trans hx1; clear hx1 z0 z1; obtain ⟨z0, z1⟩ := HS.out _ hq) | (go_at_call 24; refine (HYR.out _ _ (HX0.out.trans hq)).mono ?_; rintro e w1 ⟨rfl, hx1⟩; replace hq := hq.trans hx1; clear hx1 z0 z1; obtain ⟨z0, z1⟩ := HS.out _ hq) | (go_at_call 16; refine (HB.out.known _ (HX0.out.trans hq)).mono ?_; rintro e w4 ⟨rfl, hx4⟩))
                go_ret
                exact ⟨rfl, (HX0.out.trans hq).trans hx4⟩
              | true =>
                obtain ⟨ry1, ry2⟩ := inB_iff.1 h6
                obtain ⟨rz1, rz2⟩ := inB_iff.1 h7
                obtain ⟨rr1, rr2⟩ := inB_iff.1 h5
                have hy6 := HBO.out.y2
                by_cases h8 : z < y
                · have t8 : decide (z < y) = true := by simpa using h8
                  go_enter Tryz.func5, Tryz.ntmps5
                  go_wp2_with (first | (go_at_call 11; refine (HB.out.slim _ HX0.out).mono ?_; rintro e w1 ⟨rfl, hq⟩; obtain ⟨z0, z1⟩ := HS.out _ hq) | (go_at_call 13; refine (HSR.out _ (HX0.out.trans hq)).mono ?_; rintro e w1 ⟨rfl, hx1⟩; replace hq := hq.trans hx1; clear hx1 z0 z1; obtain ⟨z0, z1⟩ := HS.out _ hq) | (go_at_call 12; refine (HB.out.book _ (HX0.out.trans hq)).mono ?_; rintro e w1 ⟨rfl, hx1⟩; replace hq := hq.trans hx1; clear hx1 z0 z1; obtain ⟨z0, z1⟩ := HS.out _ hq) | (go_at_call 23; refine (HRV.out _ _ (HX0.out.trans hq)).mono ?_; rintro e w1 ⟨rfl, hx1⟩; replace hq := hq.trans hx1; clear hx1 z0 z1; obtain ⟨z0, z1⟩ := HS.out _ hq) | (go_at_call 24; refine (HYR.out _ _ (HX0.out.trans hq)).mono ?_; rintro e w1 ⟨rfl, hx1⟩; replace hq := hq.trans hx1; clear hx1 z0 z1; obtain ⟨z0, z1⟩ := HS.out _ hq) | (go_at_call 16; refine (HB.out.known _ (HX0.out.trans hq)).mono ?_; rintro e w4 ⟨rfl, hx4⟩))
                  go_ret
                  exact ⟨rfl, (HX0.out.trans hq).trans hx4⟩
                · have t8 : decide (z < y) = false := by simpa using h8
                  by_cases h9 : (va.length : Int) ≠ z - y + 1
                  · have t9 : ((va.length : Int) != z - y + 1) = true := by rw [bne_iff_ne]; exact h9
                    go_enter Tryz.func5, Tryz.ntmps5
                    go_wp2_with (first | (go_at_call 11; refine (HB.out.slim _ HX0.out).mono ?_; rintro e w1 ⟨rfl, hq⟩; obtain ⟨z0, z1⟩ := HS.out _ hq) | (go_at_call 13; refine (HSR.out _ (HX0.out.trans hq)).mono ?_; rintro e w1 ⟨rfl, hx1⟩; replace hq := hq.trans hx1; clear hx1 z0 z1; obtain ⟨z0, z1⟩ := HS.out _ hq) | (go_at_call 12; refine (HB.out.book _ (HX0.out.trans hq)).mono ?_; rintro e w1 ⟨rfl, hx1⟩; replace hq := hq.trans hx1; clear hx1 z0 z1; obtain ⟨z0, z1⟩ := HS.out _ hq) | (go_at_call 23; refine (HRV.out _ _ (HX0.out.trans hq)).mono ?_; rintro e w1 ⟨rfl, hx1⟩; replace hq := hq.trans hx1; clear hx1 z0 z1; obtain ⟨z0, z1⟩ := HS.out _ hq) | (go_at_call 24; refine (HYR.out _ _ (HX0.out.trans hq)).mono ?_; rintro e w1 ⟨rfl, hx1⟩; replace hq := hq.trans hx1; clear hx1 z0 z1; obtain ⟨z0, z1⟩ := HS.out _ hq) | (go_at_call 16; refine (HB.out.known _ (HX0.out.trans hq)).mono ?_; rintro e w4 ⟨rfl, hx4⟩))
                    go_ret
                    exact ⟨rfl, (HX0.out.trans hq).trans hx4⟩
                  · have t9 : ((va.length : Int) != z - y + 1) = false := by rw [bne_eq_false_iff_eq]; omega
                    cases h10 : inB n 0 300 with
                    | false =>
                      go_enter Tryz.func5, Tryz.ntmps5
                      go_wp2_with (first | (go_at_call 11; refine (HB.out.slim _ HX0.out).mono ?_; rintro e w1 ⟨rfl, hq⟩; obtain ⟨z0, z1⟩ := HS.out _ hq) | (go_at_call 13; refine (HSR.out _ (HX0.out.trans hq)).mono ?_; rintro e w1 ⟨rfl, hx1⟩; replace hq := hq.trans hx1; clear hx1 z0 z1; obtain ⟨z0, z1⟩ := HS.out _ hq) | (go_at_call 12; refine (HB.out.book _ (HX0.out.trans hq)).mono ?_; rintro e w1 ⟨rfl, hx1⟩; replace hq := hq.trans hx1; clear hx1 z0 z1; obtain ⟨z0, z1⟩ := HS.out _ hq) | (go_at_call 23; refine (HRV.out _ _ (HX0.out.trans hq)).mono ?_; rintro e w1 ⟨rfl, hx1⟩; replace hq := hq.trans hx1; clear hx1 z0 z1; obtain ⟨z0, z1⟩ := HS.out _ hq) | (go_at_call 24; refine (HYR.out _ _ (HX0.out.trans hq)).mono ?_; rintro e w1 ⟨rfl, hx1⟩; replace hq := hq.trans hx1; clear hx1 z0 z1; obtain ⟨z0, z1⟩ := HS.out _ hq) | (go_at_call 26; refine (rsize_any _ _).mono ?_; rintro e w' ⟨rfl, rfl⟩) | (go_at_call 16; refine (HB.out.known _ (HX0.out.trans hq)).mono ?_; rintro e w4 ⟨rfl, hx4⟩))
                      go_ret
                      exact ⟨rfl, (HX0.out.trans hq).trans hx4⟩
                    | true =>
                      cases h11 : truthB b ⟨[], []⟩ ⟨we, []⟩ with
                      | false =>
                        go_enter Tryz.func5, Tryz.ntmps5
                        go_wp2_with (first | (go_at_call 11; refine (HB.out.slim _ HX0.out).mono ?_; rintro e w1 ⟨rfl, hq⟩; obtain ⟨z0, z1⟩ := HS.out _ hq) | (go_at_call 13; refine (HSR.out _ (HX0.out.trans hq)).mono ?_; rintro e w1 ⟨rfl, hx1⟩; replace hq := hq.trans hx1; clear hx1 z0 z1; obtain ⟨z0, z1⟩ := HS.out _ hq) | (go_at_call 12; refine (HB.out.book _ (HX0.out.trans hq)).mono ?_; rintro e w1 ⟨rfl, hx1⟩; replace hq := hq.trans hx1; clear hx1 z0 z1; obtain ⟨z0, z1⟩ := HS.out _ hq) | (go_at_call 23; refine (HRV.out _ _ (HX0.out.trans hq)).mono ?_; rintro e w1 ⟨rfl, hx1⟩; replace hq := hq.trans hx1; clear hx1 z0 z1; obtain ⟨z0, z1⟩ := HS.out _ hq) | (go_at_call 24; refine (HYR.out _ _ (HX0.out.trans hq)).mono ?_; rintro e w1 ⟨rfl, hx1⟩; replace hq := hq.trans hx1; clear hx1 z0 z1; obtain ⟨z0, z1⟩ := HS.out _ hq) | (go_at_call 26; refine (rsize_any _ _).mono ?_; rintro e w' ⟨rfl, rfl⟩) | (go_at_call 15; refine (HTR.out _ (HX0.out.trans hq)).mono ?_; rintro e w1 ⟨rfl, hx1⟩; replace hq := hq.trans hx1; clear hx1 z0 z1; obtain ⟨z0, z1⟩ := HS.out _ hq) | (go_at_call 16; refine (HB.out.known _ (HX0.out.trans hq)).mono ?_; rintro e w4 ⟨rfl, hx4⟩))
                        go_ret
                        exact ⟨rfl, (HX0.out.trans hq).trans hx4⟩
                      | true =>
                        have h9' : (va.length : Int) = z - y + 1 := Decidable.not_not.1 h9
                        have htb := h11
                        unfold truthB at htb
                        simp only [Bool.and_eq_true, decide_eq_true_eq, Bool.not_eq_true', List.any_eq_false, decide_not, Decidable.not_not] at htb
                        obtain ⟨⟨htb1, htb2⟩, _⟩ := htb
                        have hrow : ∀ l, l ∈ we → (l.length : Int) = b.years := fun l hl => by have := htb1 l hl; simpa using this
                        obtain ⟨rn, rfl⟩ : ∃ rn : Nat, r = rn := ⟨r.toNat, by omega⟩
                        obtain ⟨yn, rfl⟩ : ∃ yn : Nat, y = yn := ⟨y.toNat, by omega⟩
                        obtain ⟨zn, rfl⟩ : ∃ zn : Nat, z = zn := ⟨z.toNat, by omega⟩
                        have hrl : rn < b.rivers.length := by omega
                        obtain ⟨rb, ro, gv, R, rfl, hR, c0, c1, c2, hg⟩ := HR3.out rn hrl
                        obtain ⟨ga, gc, rfl, g1, g2, g3⟩ := hg.open
                        obtain ⟨wb, wo, lv, row, rfl, hrw, d0, hrow3⟩ := HW3.out rn (by omega)
                        obtain ⟨la, lc, rfl, l1, l2, l3⟩ := hrow3.open
                        have hgl := HBO.out.len R (List.mem_of_getElem? hR.out)
                        have hll := hrow row (List.mem_of_getElem? hrw.out)
                        have i1 : (0 : Int) ≤ (rn : Int) := by omega
                        have i2 : (rn : Int) < (b.rivers.length : Int) := by omega
                        have i3 : (rn : Int) < (we.length : Int) := by omega
                        have HG3 := Lib.hid g3
                        have HL3 := Lib.hid l3
                        have HLE := Lib.hid (fun w1 (h : Ext w w1) (LA LB : Int) (hl : lengthOf b rn yn zn = (LA, LB)) => Length_ok (HBB.out w1 h) (show lengthArg b rn yn zn = true by unfold lengthArg; rw [h4, h5, h6, h7, decide_eq_true (by omega : (yn : Int) ≤ zn)]; rfl) hl)
                        have hra : ripeArg b rn yn n = true := by unfold ripeArg; rw [h4, h5, h6, h10]; rfl
                        have HRN := Lib.hid (fun w1 (h : Ext w w1) hl => Ripe_none' (HBB.out w1 h) hra hl)
                        have HRS := Lib.hid (fun k w1 (h : Ext w w1) hl => Ripe_ok (k := k) (HBB.out w1 h) hra hl)
                        have HD := Lib.hid (And.intro c0 (And.intro c1 (And.intro c2 d0)))
                        have HLN := Lib.hid (And.intro hgl (And.intro hll h9'))
                        have hyz : yn ≤ zn := by omega
                        clear g3 l3 hg hrow3 hra c0 c1 c2 d0 hrow htb1 htb2 hgl hll h9 h9'
                        go_enter Tryz.func5, Tryz.ntmps5
                        go_upto_region 3 with (first | (go_at_call 11; refine (HB.out.slim _ HX0.out).mono ?_; rintro e w1 ⟨rfl, hq⟩; obtain ⟨z0, z1⟩ := HS.out _ hq) | (go_at_call 13; refine (HSR.out _ (HX0.out.trans hq)).mono ?_; rintro e w1 ⟨rfl, hx1⟩; replace hq := hq.trans hx1; clear hx1 z0 z1; obtain ⟨z0, z1⟩ := HS.out _ hq) | (go_at_call 12; refine (HB.out.book _ (HX0.out.trans hq)).mono ?_; rintro e w1 ⟨rfl, hx1⟩; replace hq := hq.trans hx1; clear hx1 z0 z1; obtain ⟨z0, z1⟩ := HS.out _ hq) | (go_at_call 23; refine (HRV.out _ _ (HX0.out.trans hq)).mono ?_; rintro e w1 ⟨rfl, hx1⟩; replace hq := hq.trans hx1; clear hx1 z0 z1; obtain ⟨z0, z1⟩ := HS.out _ hq) | (go_at_call 24; refine (HYR.out _ _ (HX0.out.trans hq)).mono ?_; rintro e w1 ⟨rfl, hx1⟩; replace hq := hq.trans hx1; clear hx1 z0 z1; obtain ⟨z0, z1⟩ := HS.out _ hq) | (go_at_call 26; refine (rsize_any _ _).mono ?_; rintro e w' ⟨rfl, rfl⟩) | (go_at_call 15; refine (HTR.out _ (HX0.out.trans hq)).mono ?_; rintro e w1 ⟨rfl, hx1⟩; replace hq := hq.trans hx1; clear hx1 z0 z1; obtain ⟨z0, z1⟩ := HS.out _ hq))
                        have d0 := (HX0.out.trans hq).cell HD.out.1
                        have d1 := (HX0.out.trans hq).cell HD.out.2.1
                        have d2 := (HX0.out.trans hq).cell HD.out.2.2.1
                        obtain ⟨wL, hwL⟩ : ∃ wL, wL = w1.alloc (.cells #[.slice ga R.grow.length gc, .int .i64 R.vary, .int .i64 R.closed] 43) := ⟨_, rfl⟩
                        have hxL : Ext (w.alloc (.cells #[.int .i64 b.years, .slice (some ⟨rb, ro, none⟩) b.rivers.length rc] 24)) wL := by rw [hwL]; exact hq.alloc _
                        have HBXL := Lib.hid (fun W (h : Ext wL W) => (⟨(HS.out _ (hxL.trans h)).1, (HS.out _ (hxL.trans h)).2, h.cell (by rw [hwL]; go_simp), h.cell (by rw [hwL]; go_simp)⟩ : W.cell? ⟨w.heap.size, 0, none⟩ = some (.int .i64 b.years) ∧ W.cell? ⟨w.heap.size, 1, none⟩ = some (.slice (some ⟨rb, ro, none⟩) b.rivers.length rc) ∧ W.cell? ⟨w1.heap.size, 0, none⟩ = some (.slice ga R.grow.length gc) ∧ W.cell? ⟨w1.heap.size, 1, none⟩ = some (.int .i64 R.vary)))
                        have HXL := Lib.hid (HX0.out.trans hxL)
                        go_upto_region 4 with fail
                        rw [← hwL]
                        clear hwL hq z0 z1 d0 d1 d2 hxL
                        go_wp2
                        go_loopw [16, 17] (fun s t wr => ∃ (p : Nat) (N : Int), yn ≤ p ∧ p ≤ zn + 1 ∧ t = .int .i64 p ∧ s = .int .i64 N ∧ Ext wL wr ∧ Hid (sumFrom (leastOf b rn) yn (p - yn) ≤ N ∧ N ≤ sumFrom (greatestOf b rn) yn (p - yn))) (fun _ t _ => zn + 1 - (intOf t).toNat)
                        case atStart => exact ⟨yn, 0, Nat.le_refl _, by omega, rfl, rfl, Ext.refl _, by rw [Nat.sub_self]; exact ⟨Int.le_refl _, Int.le_refl _⟩⟩
                        case round =>
                          obtain ⟨p, N, hyp, hpz, rfl, rfl, hx, hN⟩ := hrel
                          obtain ⟨z0, z1, z2, z3⟩ := HBXL.out _ hx
                          by_cases hlt : p ≤ zn
                          · have hlt' : decide ((p : Int) ≤ (zn : Int)) = true := by simp; omega
                            obtain ⟨j, hj⟩ : ∃ j : Nat, (p : Int) - (yn : Int) = (j : Int) := ⟨p - yn, by omega⟩
                            have hjl : j < va.length := by have := HLN.out.2.2; omega
                            have hpl : p < R.grow.length := by have := HLN.out.1; omega
                            have hpw : p < row.length := by have := HLN.out.2.1; omega
                            obtain ⟨eb, eo, vj, rfl, hvj, k0⟩ := HE3.out j hjl
                            obtain ⟨gb, go, g, rfl, hgj, k1, k2⟩ := HG3.out p hpl
                            obtain ⟨lb, lo, wj, rfl, hwj, k3⟩ := HL3.out p hpw
                            have hxw := HXL.out.trans hx
                            have q0 := hxw.cell k0
                            have q1 := hxw.cell k1
                            have q2 := hxw.cell k2
                            have q3 := hxw.cell k3
                            have q4 := hxw.cell HD.out.2.2.2
                            obtain ⟨gl, gh⟩ := g
                            simp only at q1 q2
                            obtain ⟨s, hs, hs1, hv, f0, f1, _⟩ := year_range HBO.out hR.out (y := p) (by omega)
                            have hsg : s = (gl, gh) := by have := hgj.out; rw [hs] at this; exact Option.some.inj this
                            subst hsg
                            simp only at hs1 f0 f1
                            have hv1 := hv.1
                            have hv2 := hv.2
                            have hb0 := hs1.1
                            have hb1 := hs1.2.1
                            have hb2 := hs1.2.2
                            have p1 : (0 : Int) ≤ (p : Int) := by omega
                            have p2 : (p : Int) < (R.grow.length : Int) := by omega
                            have p3 : (p : Int) < (row.length : Int) := by omega
                            have p4 : (0 : Int) ≤ (j : Int) := by omega
                            have p5 : (j : Int) < (va.length : Int) := by omega
                            have hjy : (p - yn) = j := by omega
                            have hN1 := hN.out.1
                            have hN2 := hN.out.2
                            rw [hjy] at hN1 hN2
                            have hyj : ((yn : Int) + (j : Int)) = (p : Int) := by omega
                            have h0 : sumFrom (leastOf b rn) yn (p + 1 - yn) = sumFrom (leastOf b rn) yn j + max 0 (gl - R.vary) := by rw [show p + 1 - yn = j + 1 by omega]; simp only [sumFrom]; rw [hyj, f0]
                            have h1' : sumFrom (greatestOf b rn) yn (p + 1 - yn) = sumFrom (greatestOf b rn) yn j + (gh + R.vary) := by rw [show p + 1 - yn = j + 1 by omega]; simp only [sumFrom]; rw [hyj, f1]
                            have hsb := sumFrom_bound (f := leastOf b rn) (y := yn) (c := 43) j (fun k hk => by
                              obtain ⟨_, _, _, _, _, _, q1, q2, q3, q4⟩ := year_range HBO.out hR.out (y := yn + k) (by omega)
                              rw [Int.natCast_add] at q1 q2 q3 q4
                              exact ⟨q1, q2⟩)
                            have hsc := sumFrom_bound (f := greatestOf b rn) (y := yn) (c := 43) j (fun k hk => by
                              obtain ⟨_, _, _, _, _, _, q1, q2, q3, q4⟩ := year_range HBO.out hR.out (y := yn + k) (by omega)
                              rw [Int.natCast_add] at q1 q2 q3 q4
                              exact ⟨q3, q4⟩)
                            have hj6 : j ≤ 6 := by omega
                            have hN0 : 0 ≤ N := by omega
                            have hN8 : N ≤ 258 := by omega
                            have H01 := Lib.hid (And.intro h0 h1')
                            have HNN := Lib.hid (And.intro hN1 hN2)
                            clear k0 k1 k2 k3 hs hv hs1 f0 f1 h0 h1' hsb hsc hN hN1 hN2 hyj hjy hgj hwj hvj
                            go_upto_region 8 with fail
                            go_quiet (fail)
                            by_cases a1 : wj < gl
                            · have t1 : decide (wj < gl) = true := by simpa using a1
                              go_wp2_with (go_at_call 16; refine (HB.out.known _ (HXL.out.trans (hx.drewN _))).mono ?_; rintro e w4 ⟨rfl, hx4⟩)
                              go_ret
                              exact ⟨rfl, (HXL.out.trans (hx.drewN _)).trans hx4⟩
                            · have t1 : decide (wj < gl) = false := by simpa using a1
                              by_cases a2 : gh < wj
                              · have t2 : decide (gh < wj) = true := by simpa using a2
                                go_wp2_with (go_at_call 16; refine (HB.out.known _ (HXL.out.trans (hx.drewN _))).mono ?_; rintro e w4 ⟨rfl, hx4⟩)
                                go_ret
                                exact ⟨rfl, (HXL.out.trans (hx.drewN _)).trans hx4⟩
                              · have t2 : decide (gh < wj) = false := by simpa using a2
                                by_cases a3 : vj < -R.vary
                                · have t10 : decide (vj < -R.vary) = true := by simpa using a3
                                  go_wp2_with (go_at_call 16; refine (HB.out.known _ (HXL.out.trans (hx.drewN _))).mono ?_; rintro e w4 ⟨rfl, hx4⟩)
                                  go_ret
                                  exact ⟨rfl, (HXL.out.trans (hx.drewN _)).trans hx4⟩
                                · have t10 : decide (vj < -R.vary) = false := by simpa using a3
                                  by_cases a4 : R.vary < vj
                                  · have t4 : decide (R.vary < vj) = true := by simpa using a4
                                    go_wp2_with (go_at_call 16; refine (HB.out.known _ (HXL.out.trans (hx.drewN _))).mono ?_; rintro e w4 ⟨rfl, hx4⟩)
                                    go_ret
                                    exact ⟨rfl, (HXL.out.trans (hx.drewN _)).trans hx4⟩
                                  · have t4 : decide (R.vary < vj) = false := by simpa using a4
                                    have hM : max 0 (wj + vj) = if 0 < wj + vj then wj + vj else 0 := by split <;> omega
                                    have HM := Lib.hid hM
                                    clear hM
                                    go_wp2
                                    go_roundw
                                    case rel => exact ⟨p + 1, N + max 0 (wj + vj), by omega, by omega, by go_num, by rw [HM.out], hx.drewN _, by rw [H01.out.1, H01.out.2]; have q := HNN.out; exact ⟨by omega, by omega⟩⟩
                                    case measure => simp [intOf]; omega
                          · have hlt' : decide ((p : Int) ≤ (zn : Int)) = false := by simp; omega
                            have hpz' : p = zn + 1 := by omega
                            obtain ⟨LA, LB, hLL⟩ : ∃ LA LB, lengthOf b rn yn zn = (LA, LB) := ⟨_, _, rfl⟩
                            have hLL2 := hLL
                            unfold lengthOf at hLL2
                            rw [show ((zn : Int) + 1 - (yn : Int)).toNat = p - yn by omega] at hLL2
                            have hLA := congrArg Prod.fst hLL2
                            have hLB := congrArg Prod.snd hLL2
                            simp only at hLA hLB
                            have hN1 := hN.out.1
                            have hN2 := hN.out.2
                            rw [hLA] at hN1
                            rw [hLB] at hN2
                            have HLL := Lib.hid (fun w1 h => HLE.out w1 h LA LB hLL)
                            have HQ := Lib.hid (fun w2 (h2 : Ext wr w2) W (h : Ext (w2.alloc (.cells #[.int .i64 LA, .int .i64 LB] 47)) W) => (by have q := HBXL.out W (hx.trans ((h2.alloc _).trans h)); exact ⟨⟨q.1, q.2.1⟩, ⟨h.cell (by go_simp), h.cell (by go_simp)⟩⟩ : (W.cell? ⟨w.heap.size, 0, none⟩ = some (.int .i64 b.years) ∧ W.cell? ⟨w.heap.size, 1, none⟩ = some (.slice (some ⟨rb, ro, none⟩) b.rivers.length rc)) ∧ W.cell? ⟨w2.heap.size, 0, none⟩ = some (.int .i64 LA) ∧ W.cell? ⟨w2.heap.size, 1, none⟩ = some (.int .i64 LB)))
                            have HXR := Lib.hid (HXL.out.trans hx)
                            have hpos : ∀ k : Nat, k < p - yn → 0 ≤ leastOf b rn ((yn : Int) + k) := fun k hk => least_pos HBO.out hrl (by omega) (by omega)
                            have n1 : decide (N < LA) = false := by simp; omega
                            have n2 : decide (LB < N) = false := by simp; omega
                            clear hLL hLL2 hLB hN
                            cases h6' : ripeOf b rn yn n with
                            | none =>
                              have HRI := Lib.hid (fun w1 h => HRN.out w1 h h6')
                              have hsm := ripe_none_iff h6' (zn - yn) (by omega)
                              rw [show zn - yn + 1 = p - yn by omega, hLA] at hsm
                              have t1 : decide (LA < n) = true := by simpa using hsm
                              clear h6' hsm hLA hpos
                              go_wp2_with (first | (go_at_call 21; refine (HLL.out _ HXR.out).mono ?_; rintro e w2 ⟨rfl, hx2⟩; have HQQ := Lib.hid (HQ.out w2 hx2); have HXQ := Lib.hid (HXR.out.trans (hx2.alloc (.cells #[.int .i64 LA, .int .i64 LB] 47))); have hq := Ext.refl (w2.alloc (.cells #[.int .i64 LA, .int .i64 LB] 47)); clear z0 z1 z2 z3 hx2; obtain ⟨⟨z0, z1⟩, z2, z3⟩ := HQQ.out _ hq) | (go_at_call 22; refine (HRI.out _ (HXQ.out.trans hq)).mono ?_; rintro e w3 ⟨rfl, hx3⟩; replace hq := hq.trans hx3; clear hx3 z0 z1 z2 z3; obtain ⟨⟨z0, z1⟩, z2, z3⟩ := HQQ.out _ hq) | (go_at_call 24; refine (HYR.out _ _ (HXQ.out.trans hq)).mono ?_; rintro e w3 ⟨rfl, hx3⟩; replace hq := hq.trans hx3; clear hx3 z0 z1 z2 z3; obtain ⟨⟨z0, z1⟩, z2, z3⟩ := HQQ.out _ hq) | (go_at_call 16; refine (HB.out.known _ (HXQ.out.trans hq)).mono ?_; rintro e w4 ⟨rfl, hx4⟩))
                              go_ret
                              exact ⟨rfl, (HXQ.out.trans hq).trans hx4⟩
                            | some k =>
                              have HRI := Lib.hid (fun w1 h => HRS.out k w1 h h6')
                              obtain ⟨k1, k2, k3⟩ := ripe_some_iff h6'
                              have hyr : isYearB b ((yn : Int) + k) = true := by unfold isYearB; rw [inB_iff]; omega
                              have t2 : decide ((yn : Int) + (k : Int) < (yn : Int)) = false := by simp only [decide_eq_false_iff_not]; omega
                              by_cases hzk : (yn : Int) + k ≤ zn
                              · have t3 : decide ((yn : Int) + (k : Int) ≤ (zn : Int)) = true := by simpa using hzk
                                have hmo := sumFrom_mono (f := leastOf b rn) (y := yn) (m := k + 1) (n := p - yn) (by omega) hpos
                                rw [hLA] at hmo
                                have t4 : decide (N < n) = false := by simp; omega
                                clear h6' k1 k2 k3 hmo hLA hpos
                                go_wp2_with (first | (go_at_call 21; refine (HLL.out _ HXR.out).mono ?_; rintro e w2 ⟨rfl, hx2⟩; have HQQ := Lib.hid (HQ.out w2 hx2); have HXQ := Lib.hid (HXR.out.trans (hx2.alloc (.cells #[.int .i64 LA, .int .i64 LB] 47))); have hq := Ext.refl (w2.alloc (.cells #[.int .i64 LA, .int .i64 LB] 47)); clear z0 z1 z2 z3 hx2; obtain ⟨⟨z0, z1⟩, z2, z3⟩ := HQQ.out _ hq) | (go_at_call 22; refine (HRI.out _ (HXQ.out.trans hq)).mono ?_; rintro e w3 ⟨rfl, hx3⟩; replace hq := hq.trans hx3; clear hx3 z0 z1 z2 z3; obtain ⟨⟨z0, z1⟩, z2, z3⟩ := HQQ.out _ hq) | (go_at_call 24; refine (HYR.out _ _ (HXQ.out.trans hq)).mono ?_; rintro e w3 ⟨rfl, hx3⟩; replace hq := hq.trans hx3; clear hx3 z0 z1 z2 z3; obtain ⟨⟨z0, z1⟩, z2, z3⟩ := HQQ.out _ hq) | (go_at_call 16; refine (HB.out.known _ (HXQ.out.trans hq)).mono ?_; rintro e w4 ⟨rfl, hx4⟩))
                                go_ret
                                exact ⟨rfl, (HXQ.out.trans hq).trans hx4⟩
                              · have t3 : decide ((yn : Int) + (k : Int) ≤ (zn : Int)) = false := by simpa using hzk
                                have hsm := k3 (zn - yn) (by omega)
                                rw [show zn - yn + 1 = p - yn by omega, hLA] at hsm
                                have t4 : decide (LA < n) = true := by simpa using hsm
                                clear h6' k1 k2 k3 hsm hLA hpos
                                go_wp2_with (first | (go_at_call 21; refine (HLL.out _ HXR.out).mono ?_; rintro e w2 ⟨rfl, hx2⟩; have HQQ := Lib.hid (HQ.out w2 hx2); have HXQ := Lib.hid (HXR.out.trans (hx2.alloc (.cells #[.int .i64 LA, .int .i64 LB] 47))); have hq := Ext.refl (w2.alloc (.cells #[.int .i64 LA, .int .i64 LB] 47)); clear z0 z1 z2 z3 hx2; obtain ⟨⟨z0, z1⟩, z2, z3⟩ := HQQ.out _ hq) | (go_at_call 22; refine (HRI.out _ (HXQ.out.trans hq)).mono ?_; rintro e w3 ⟨rfl, hx3⟩; replace hq := hq.trans hx3; clear hx3 z0 z1 z2 z3; obtain ⟨⟨z0, z1⟩, z2, z3⟩ := HQQ.out _ hq) | (go_at_call 24; refine (HYR.out _ _ (HXQ.out.trans hq)).mono ?_; rintro e w3 ⟨rfl, hx3⟩; replace hq := hq.trans hx3; clear hx3 z0 z1 z2 z3; obtain ⟨⟨z0, z1⟩, z2, z3⟩ := HQQ.out _ hq) | (go_at_call 16; refine (HB.out.known _ (HXQ.out.trans hq)).mono ?_; rintro e w4 ⟨rfl, hx4⟩))
                                go_ret
                                exact ⟨rfl, (HXQ.out.trans hq).trans hx4⟩
end Go.Proofs.YtabkfohbdfpdpaaGreatDoor
