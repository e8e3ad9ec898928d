/- The reference's Origin; the law RiverGrew. -/
import Derived.Test.YtabkfohbdfpdpaaGreatDoorLess
import Derived.Test.YtabkfohbdfpdpaaGreatDoorReft
namespace Go.Proofs.YtabkfohbdfpdpaaGreatDoor
open Go.RowKit

def originB (b : Book) (o : Org) (n : Int) : Bool := isRiverB b o.1 && isYearB b o.2 && decide (0 ≤ o.2 - n + 1)
theorem rorigin_any (v : Value) (b : Book) (o : Org) (n : Nat) (w : World) (hb : BookAt w v b) (hB : BookB b) (hn : n ≤ 1000) :
    Calls Tryz.prog 14 #[v, .agg #[.int .i64 o.1, .int .i64 o.2], .int .i64 n] w fun e w' => e = .returned (.bool (originB b o n)) ∧ Ext w w' := by
  have HRV := Lib.hid (fun w1 (h : Ext w w1) => rriver_any v b o.1 w1 (hb.ext h))
  have HYR := Lib.hid (fun w1 (h : Ext w w1) => ryear_any v b o.2 w1 (hb.ext h) hB.y1 hB.y2)
  obtain ⟨ra, rc, rfl, _⟩ := hb.slice
  have HX0 := Lib.hid (((Ext.refl w).alloc _).alloc _ : Ext w ((w.alloc (.cells #[.int .i64 b.years, .slice ra b.rivers.length rc] 24)).alloc (.cells #[.int .i64 o.1, .int .i64 o.2] 27)))
  have HS := Lib.hid (fun W (h : Ext ((w.alloc (.cells #[.int .i64 b.years, .slice ra b.rivers.length rc] 24)).alloc (.cells #[.int .i64 o.1, .int .i64 o.2] 27)) W) => (⟨h.cell (by go_simp), h.cell (by go_simp), h.cell (by go_simp), h.cell (by go_simp)⟩ : W.cell? ⟨w.heap.size, 0, none⟩ = some (.int .i64 b.years) ∧ W.cell? ⟨w.heap.size, 1, none⟩ = some (.slice ra b.rivers.length rc) ∧ W.cell? ⟨w.heap.size + 1, 0, none⟩ = some (.int .i64 o.1) ∧ W.cell? ⟨w.heap.size + 1, 1, none⟩ = some (.int .i64 o.2)))
  have hy6 := hB.y2
  clear hb hB
  cases h1 : isRiverB b o.1 with
  | false =>
    have HN : Hid (originB b o n = false) := by unfold Hid originB; rw [h1]; rfl
    go_enter Tryz.func14, Tryz.ntmps14
    go_wp2_with (go_at_call 23; refine (HRV.out _ HX0.out).mono ?_; rintro e w1 ⟨rfl, hq⟩; obtain ⟨z0, z1, z2, z3⟩ := HS.out _ hq)
    go_ret
    exact ⟨by rw [HN.out] <;> rfl, HX0.out.trans hq⟩
  | true =>
    cases h2 : isYearB b o.2 with
    | false =>
      have HN : Hid (originB b o n = false) := by unfold Hid originB; rw [h2]; simp
      go_enter Tryz.func14, Tryz.ntmps14
      go_wp2_with (first
        | (go_at_call 23; refine (HRV.out _ HX0.out).mono ?_; rintro e w1 ⟨rfl, hq⟩; obtain ⟨z0, z1, z2, z3⟩ := HS.out _ hq)
        | (go_at_call 24; refine (HYR.out _ (HX0.out.trans hq)).mono ?_; rintro e w2 ⟨rfl, hx2⟩; clear z0 z1 z2 z3; obtain ⟨z0, z1, z2, z3⟩ := HS.out _ (hq.trans hx2)))
      go_ret
      exact ⟨by rw [HN.out] <;> rfl, (HX0.out.trans hq).trans hx2⟩
    | true =>
      have HN : Hid (originB b o n = decide (0 ≤ o.2 - n + 1)) := by unfold Hid originB; rw [h1, h2]; rfl
      obtain ⟨q1, q2⟩ := inB_iff.1 h2
      go_enter Tryz.func14, Tryz.ntmps14
      go_wp2_with (first
        | (go_at_call 23; refine (HRV.out _ HX0.out).mono ?_; rintro e w1 ⟨rfl, hq⟩; obtain ⟨z0, z1, z2, z3⟩ := HS.out _ hq)
        | (go_at_call 24; refine (HYR.out _ (HX0.out.trans hq)).mono ?_; rintro e w2 ⟨rfl, hx2⟩; clear z0 z1 z2 z3; obtain ⟨z0, z1, z2, z3⟩ := HS.out _ (hq.trans hx2)))
      go_ret
      exact ⟨by rw [HN.out] <;> rfl, (HX0.out.trans hq).trans hx2⟩

/-! ### In plain Lean -/
theorem ring_grown {g : Int × Int} {wv va er vary off : Int} (h1 : g.1 ≤ wv) (h2 : wv ≤ g.2) (h3 : -vary ≤ va) (h4 : va ≤ vary) (h5 : -off ≤ er) (h6 : er ≤ off) : ringOk g (wv + va + er) (vary + off) = true := by
  unfold ringOk; rw [decide_eq_true_eq]; omega
theorem grown_could {b : Book} (hB : BookB b) {r y n : Nat} {rs : List Int} {d : Int} {R : River} (hR : b.rivers[r]? = some R) (hy : (y : Int) < b.years) (hn : rs.length = n) (n1 : 1 ≤ n) (hny : n ≤ y + 1) (hS : ShellB ⟨rs, d⟩)
    (h : ∀ k x, rs[k]? = some x → ringOk (R.grow.getD (y + 1 - n + k) (0, 0)) x (R.vary + d) = true) : ((r : Int), (y : Int)) ∈ couldOf b (oneOf ⟨rs, d⟩) 0 := by
  rw [couldOf_one hB hS]
  refine List.mem_filter.2 ⟨?_, ?_⟩
  · unfold originsOf
    simp only [List.mem_flatMap, List.mem_map, List.mem_range]
    refine ⟨r, (List.getElem?_eq_some_iff.1 hR).1, y + 1 - n, by rw [hn]; omega, by rw [hn]; rw [show n - 1 + (y + 1 - n) = y by omega]⟩
  · unfold couldOne ringsOk firstY
    rw [List.all_eq_true]
    intro k hk
    have hk := List.mem_range.1 hk
    simp only [Int.toNat_natCast]
    rw [riverOf_at hR]
    have := h k rs[k] (List.getElem?_eq_getElem hk)
    rw [List.getD_eq_getElem?_getD (l := rs), List.getElem?_eq_getElem hk, hn]
    exact this
theorem word_range (b : Book) (l : List Org) : wordOf b l = 1 ∨ wordOf b l = 2 ∨ wordOf b l = 3 := by
  unfold wordOf
  split
  · exact .inl rfl
  · split
    · exact .inr (.inr rfl)
    · exact .inr (.inl rfl)
theorem word_never {b : Book} {l : List Org} {o : Org} (h : wordOf b l = 1) (ho : o ∈ l) : closedB b o = false := by
  unfold wordOf at h
  by_cases h0 : l.countP (closedB b) = 0
  · rw [List.countP_eq_zero] at h0; simpa using h0 o ho
  · rw [if_neg h0] at h; split at h <;> omega
theorem word_surely {b : Book} {l : List Org} {o : Org} (h : wordOf b l = 3) (ho : o ∈ l) : closedB b o = true := by
  unfold wordOf at h
  by_cases h0 : l.countP (closedB b) = 0
  · rw [if_pos h0] at h; omega
  · rw [if_neg h0] at h
    by_cases h1 : l.countP (closedB b) = l.length
    · rw [List.countP_eq_length] at h1; exact h1 o ho
    · rw [if_neg h1] at h; omega
set_option maxRecDepth 100000 in
set_option maxHeartbeats 16000000 in
theorem riverGrew_any (v : Value) (b : Book) (wv : Value) (we : List (List Int)) (ov : Value) (o : Org) (vv : Value) (va : List Int) (ev : Value) (er : List Int) (d : Int) (w : World) (hb : BookAt w v b) (hw : IntRowsAt w wv we) (ho : ov = .agg #[.int .i64 o.1, .int .i64 o.2]) (hv : IntsAt w vv va) (he : IntsAt w ev er) (ht : TabOk w) :
    Calls Tryz.prog 3 #[v, wv, ov, vv, ev, .int .i64 d] w (TrueP w) := by
  subst ho
  have HB := Lib.hid (LawB.of hb ht)
  have HBB := Lib.hid (fun w1 (h : Ext w w1) => hb.ext h)
  have HSR := Lib.hid (fun w1 (h : Ext w w1) => short_any (.agg #[wv, .slice none 0 0]) ⟨we, []⟩ w1 ⟨_, _, rfl, hw.ext h, RowOf.nil _ _⟩)
  have HTR := Lib.hid (fun w1 (h : Ext w w1) => rtruth_any v (.agg #[.slice none 0 0, .slice none 0 0]) (.agg #[wv, .slice none 0 0]) b ⟨[], []⟩ ⟨we, []⟩ w1 (hb.ext h) ⟨_, _, rfl, ⟨[], rfl, RowOf.nil _ _, fun x hx => by simp at hx⟩, RowOf.nil _ _⟩ ⟨_, _, rfl, hw.ext h, RowOf.nil _ _⟩)
  obtain ⟨ra, rc, rfl, hr0⟩ := hb.slice
  obtain ⟨_, _, hvr, r1, r2, r3⟩ := hr0.open
  cases hvr
  obtain ⟨wa, wc, rfl, w1l, w2l, w3⟩ := hw.open
  obtain ⟨va', vc, rfl, v1l, v2l, v3⟩ := hv.open
  obtain ⟨ea, ec, rfl, e1l, e2l, e3⟩ := he.open
  have HR3 := Lib.hid r3
  have HW3 := Lib.hid w3
  have HV3 := Lib.hid v3
  have HE3 := Lib.hid e3
  have HX0 := Lib.hid (((Ext.refl w).alloc _).alloc _ : Ext w ((w.alloc (.cells #[.int .i64 b.years, .slice ra b.rivers.length rc] 24)).alloc (.cells #[.int .i64 o.1, .int .i64 o.2] 27)))
  have HS := Lib.hid (fun W (h : Ext ((w.alloc (.cells #[.int .i64 b.years, .slice ra b.rivers.length rc] 24)).alloc (.cells #[.int .i64 o.1, .int .i64 o.2] 27)) W) => (⟨h.cell (by go_simp), h.cell (by go_simp), h.cell (by go_simp), h.cell (by go_simp)⟩ : W.cell? ⟨w.heap.size, 0, none⟩ = some (.int .i64 b.years) ∧ W.cell? ⟨w.heap.size, 1, none⟩ = some (.slice ra b.rivers.length rc) ∧ W.cell? ⟨w.heap.size + 1, 0, none⟩ = some (.int .i64 o.1) ∧ W.cell? ⟨w.heap.size + 1, 1, none⟩ = some (.int .i64 o.2)))
  have hmix : Tryz.prog.follows .mixedOrders = true := by kernel_rfl
  clear hb ht hw hv he hr0 r3 w3 v3 e3
  cases h1 : slimB b with
  | false =>
    go_enter Tryz.func3, Tryz.ntmps3
    go_wp2_with (first | (go_at_call 11; refine (HB.out.slim _ HX0.out).mono ?_; rintro e w1 ⟨rfl, hq⟩; obtain ⟨z0, z1, z2, z3⟩ := HS.out _ hq) | (go_at_call 16; refine (HB.out.known _ (HX0.out.trans hq)).mono ?_; rintro e w4 ⟨rfl, hx4⟩))
    go_ret
    exact ⟨rfl, (HX0.out.trans hq).trans hx4⟩
  | true =>
    cases h2 : isBookB b with
    | false =>
      go_enter Tryz.func3, Tryz.ntmps3
      go_wp2_with (first | (go_at_call 11; refine (HB.out.slim _ HX0.out).mono ?_; rintro e w1 ⟨rfl, hq⟩; obtain ⟨z0, z1, z2, z3⟩ := HS.out _ hq) | (go_at_call 12; refine (HB.out.book _ (HX0.out.trans hq)).mono ?_; rintro e w1 ⟨rfl, hx1⟩; replace hq := hq.trans hx1; clear hx1 z0 z1 z2 z3; obtain ⟨z0, z1, z2, z3⟩ := HS.out _ hq) | (go_at_call 16; refine (HB.out.known _ (HX0.out.trans hq)).mono ?_; rintro e w4 ⟨rfl, hx4⟩))
      go_ret
      exact ⟨rfl, (HX0.out.trans hq).trans hx4⟩
    | true =>
      have hB := bookB_of h2
      have HBO := Lib.hid hB
      clear hB
      cases h3 : shortB ⟨we, []⟩ with
      | false =>
        go_enter Tryz.func3, Tryz.ntmps3
        go_wp2_with (first | (go_at_call 11; refine (HB.out.slim _ HX0.out).mono ?_; rintro e w1 ⟨rfl, hq⟩; obtain ⟨z0, z1, z2, z3⟩ := HS.out _ hq) | (go_at_call 12; refine (HB.out.book _ (HX0.out.trans hq)).mono ?_; rintro e w1 ⟨rfl, hx1⟩; replace hq := hq.trans hx1; clear hx1 z0 z1 z2 z3; obtain ⟨z0, z1, z2, z3⟩ := HS.out _ hq) | (go_at_call 13; refine (HSR.out _ (HX0.out.trans hq)).mono ?_; rintro e w1 ⟨rfl, hx1⟩; replace hq := hq.trans hx1; clear hx1 z0 z1 z2 z3; obtain ⟨z0, z1, z2, z3⟩ := HS.out _ hq) | (go_at_call 16; refine (HB.out.known _ (HX0.out.trans hq)).mono ?_; rintro e w4 ⟨rfl, hx4⟩))
        go_ret
        exact ⟨rfl, (HX0.out.trans hq).trans hx4⟩
      | true =>
        by_cases h4 : va.length = 0
        · have t4 : ((va.length : Int) == 0) = true := by rw [beq_iff_eq]; omega
          have t4n : (va.length == 0) = true := by rw [beq_iff_eq]; exact h4
          clear h4
          go_enter Tryz.func3, Tryz.ntmps3
          go_wp2_with (first | (go_at_call 11; refine (HB.out.slim _ HX0.out).mono ?_; rintro e w1 ⟨rfl, hq⟩; obtain ⟨z0, z1, z2, z3⟩ := HS.out _ hq) | (go_at_call 12; refine (HB.out.book _ (HX0.out.trans hq)).mono ?_; rintro e w1 ⟨rfl, hx1⟩; replace hq := hq.trans hx1; clear hx1 z0 z1 z2 z3; obtain ⟨z0, z1, z2, z3⟩ := HS.out _ hq) | (go_at_call 13; refine (HSR.out _ (HX0.out.trans hq)).mono ?_; rintro e w1 ⟨rfl, hx1⟩; replace hq := hq.trans hx1; clear hx1 z0 z1 z2 z3; obtain ⟨z0, z1, z2, z3⟩ := HS.out _ hq) | (go_at_call 16; refine (HB.out.known _ (HX0.out.trans hq)).mono ?_; rintro e w4 ⟨rfl, hx4⟩))
          go_ret
          exact ⟨rfl, (HX0.out.trans hq).trans hx4⟩
        · have t4 : ((va.length : Int) == 0) = false := by rw [beq_eq_false_iff_ne]; omega
          have t4n : (va.length == 0) = false := by rw [beq_eq_false_iff_ne]; exact h4
          by_cases h5 : 5 < va.length
          · have t5 : decide ((5 : Int) < (va.length : Int)) = true := by simp; omega
            go_enter Tryz.func3, Tryz.ntmps3
            go_wp2_with (first | (go_at_call 11; refine (HB.out.slim _ HX0.out).mono ?_; rintro e w1 ⟨rfl, hq⟩; obtain ⟨z0, z1, z2, z3⟩ := HS.out _ hq) | (go_at_call 12; refine (HB.out.book _ (HX0.out.trans hq)).mono ?_; rintro e w1 ⟨rfl, hx1⟩; replace hq := hq.trans hx1; clear hx1 z0 z1 z2 z3; obtain ⟨z0, z1, z2, z3⟩ := HS.out _ hq) | (go_at_call 13; refine (HSR.out _ (HX0.out.trans hq)).mono ?_; rintro e w1 ⟨rfl, hx1⟩; replace hq := hq.trans hx1; clear hx1 z0 z1 z2 z3; obtain ⟨z0, z1, z2, z3⟩ := HS.out _ hq) | (go_at_call 16; refine (HB.out.known _ (HX0.out.trans hq)).mono ?_; rintro e w4 ⟨rfl, hx4⟩))
            go_ret
            exact ⟨rfl, (HX0.out.trans hq).trans hx4⟩
          · have t5 : decide ((5 : Int) < (va.length : Int)) = false := by simp; omega
            by_cases h6 : er.length ≠ va.length
            · have t6 : ((er.length : Int) != (va.length : Int)) = true := by rw [bne_iff_ne]; omega
              have t6n : (er.length != va.length) = true := by rw [bne_iff_ne]; exact h6
              go_enter Tryz.func3, Tryz.ntmps3
              go_wp2_with (first | (go_at_call 11; refine (HB.out.slim _ HX0.out).mono ?_; rintro e w1 ⟨rfl, hq⟩; obtain ⟨z0, z1, z2, z3⟩ := HS.out _ hq) | (go_at_call 12; refine (HB.out.book _ (HX0.out.trans hq)).mono ?_; rintro e w1 ⟨rfl, hx1⟩; replace hq := hq.trans hx1; clear hx1 z0 z1 z2 z3; obtain ⟨z0, z1, z2, z3⟩ := HS.out _ hq) | (go_at_call 13; refine (HSR.out _ (HX0.out.trans hq)).mono ?_; rintro e w1 ⟨rfl, hx1⟩; replace hq := hq.trans hx1; clear hx1 z0 z1 z2 z3; obtain ⟨z0, z1, z2, z3⟩ := HS.out _ hq) | (go_at_call 16; refine (HB.out.known _ (HX0.out.trans hq)).mono ?_; rintro e w4 ⟨rfl, hx4⟩))
              go_ret
              exact ⟨rfl, (HX0.out.trans hq).trans hx4⟩
            · have t6 : ((er.length : Int) != (va.length : Int)) = false := by rw [bne_eq_false_iff_eq]; omega
              have t6n : (er.length != va.length) = false := by rw [bne_eq_false_iff_eq]; omega
              have HOR := Lib.hid (fun w1 (h : Ext w w1) => rorigin_any _ b o va.length w1 (HBB.out w1 h) HBO.out (by omega))
              cases h7 : originB b o va.length with
              | false =>
                go_enter Tryz.func3, Tryz.ntmps3
                go_wp2_with (first | (go_at_call 11; refine (HB.out.slim _ HX0.out).mono ?_; rintro e w1 ⟨rfl, hq⟩; obtain ⟨z0, z1, z2, z3⟩ := HS.out _ hq) | (go_at_call 12; refine (HB.out.book _ (HX0.out.trans hq)).mono ?_; rintro e w1 ⟨rfl, hx1⟩; replace hq := hq.trans hx1; clear hx1 z0 z1 z2 z3; obtain ⟨z0, z1, z2, z3⟩ := HS.out _ hq) | (go_at_call 13; refine (HSR.out _ (HX0.out.trans hq)).mono ?_; rintro e w1 ⟨rfl, hx1⟩; replace hq := hq.trans hx1; clear hx1 z0 z1 z2 z3; obtain ⟨z0, z1, z2, z3⟩ := HS.out _ hq) | (go_at_call 14; refine (HOR.out _ (HX0.out.trans hq)).mono ?_; rintro e w1 ⟨rfl, hx1⟩; replace hq := hq.trans hx1; clear hx1 z0 z1 z2 z3; obtain ⟨z0, z1, z2, z3⟩ := HS.out _ hq) | (go_at_call 16; refine (HB.out.known _ (HX0.out.trans hq)).mono ?_; rintro e w4 ⟨rfl, hx4⟩))
                go_ret
                exact ⟨rfl, (HX0.out.trans hq).trans hx4⟩
              | true =>
                by_cases h8 : d < 0
                · have t8 : decide (d < 0) = true := by simpa using h8
                  go_enter Tryz.func3, Tryz.ntmps3
                  go_wp2_with (first | (go_at_call 11; refine (HB.out.slim _ HX0.out).mono ?_; rintro e w1 ⟨rfl, hq⟩; obtain ⟨z0, z1, z2, z3⟩ := HS.out _ hq) | (go_at_call 12; refine (HB.out.book _ (HX0.out.trans hq)).mono ?_; rintro e w1 ⟨rfl, hx1⟩; replace hq := hq.trans hx1; clear hx1 z0 z1 z2 z3; obtain ⟨z0, z1, z2, z3⟩ := HS.out _ hq) | (go_at_call 13; refine (HSR.out _ (HX0.out.trans hq)).mono ?_; rintro e w1 ⟨rfl, hx1⟩; replace hq := hq.trans hx1; clear hx1 z0 z1 z2 z3; obtain ⟨z0, z1, z2, z3⟩ := HS.out _ hq) | (go_at_call 14; refine (HOR.out _ (HX0.out.trans hq)).mono ?_; rintro e w1 ⟨rfl, hx1⟩; replace hq := hq.trans hx1; clear hx1 z0 z1 z2 z3; obtain ⟨z0, z1, z2, z3⟩ := HS.out _ hq) | (go_at_call 16; refine (HB.out.known _ (HX0.out.trans hq)).mono ?_; rintro e w4 ⟨rfl, hx4⟩))
                  go_ret
                  exact ⟨rfl, (HX0.out.trans hq).trans hx4⟩
                · have t8 : decide (d < 0) = false := by simpa using h8
                  by_cases h9 : 3 < d
                  · have t9 : decide ((3 : Int) < d) = true := by simpa using h9
                    go_enter Tryz.func3, Tryz.ntmps3
                    go_wp2_with (first | (go_at_call 11; refine (HB.out.slim _ HX0.out).mono ?_; rintro e w1 ⟨rfl, hq⟩; obtain ⟨z0, z1, z2, z3⟩ := HS.out _ hq) | (go_at_call 12; refine (HB.out.book _ (HX0.out.trans hq)).mono ?_; rintro e w1 ⟨rfl, hx1⟩; replace hq := hq.trans hx1; clear hx1 z0 z1 z2 z3; obtain ⟨z0, z1, z2, z3⟩ := HS.out _ hq) | (go_at_call 13; refine (HSR.out _ (HX0.out.trans hq)).mono ?_; rintro e w1 ⟨rfl, hx1⟩; replace hq := hq.trans hx1; clear hx1 z0 z1 z2 z3; obtain ⟨z0, z1, z2, z3⟩ := HS.out _ hq) | (go_at_call 14; refine (HOR.out _ (HX0.out.trans hq)).mono ?_; rintro e w1 ⟨rfl, hx1⟩; replace hq := hq.trans hx1; clear hx1 z0 z1 z2 z3; obtain ⟨z0, z1, z2, z3⟩ := HS.out _ hq) | (go_at_call 16; refine (HB.out.known _ (HX0.out.trans hq)).mono ?_; rintro e w4 ⟨rfl, hx4⟩))
                    go_ret
                    exact ⟨rfl, (HX0.out.trans hq).trans hx4⟩
                  · have t9 : decide ((3 : Int) < d) = false := by simpa using h9
                    cases h11 : truthB b ⟨[], []⟩ ⟨we, []⟩ with
                    | false =>
                      go_enter Tryz.func3, Tryz.ntmps3
                      go_wp2_with (first | (go_at_call 11; refine (HB.out.slim _ HX0.out).mono ?_; rintro e w1 ⟨rfl, hq⟩; obtain ⟨z0, z1, z2, z3⟩ := HS.out _ hq) | (go_at_call 12; refine (HB.out.book _ (HX0.out.trans hq)).mono ?_; rintro e w1 ⟨rfl, hx1⟩; replace hq := hq.trans hx1; clear hx1 z0 z1 z2 z3; obtain ⟨z0, z1, z2, z3⟩ := HS.out _ hq) | (go_at_call 13; refine (HSR.out _ (HX0.out.trans hq)).mono ?_; rintro e w1 ⟨rfl, hx1⟩; replace hq := hq.trans hx1; clear hx1 z0 z1 z2 z3; obtain ⟨z0, z1, z2, z3⟩ := HS.out _ hq) | (go_at_call 14; refine (HOR.out _ (HX0.out.trans hq)).mono ?_; rintro e w1 ⟨rfl, hx1⟩; replace hq := hq.trans hx1; clear hx1 z0 z1 z2 z3; obtain ⟨z0, z1, z2, z3⟩ := HS.out _ hq) | (go_at_call 15; refine (HTR.out _ (HX0.out.trans hq)).mono ?_; rintro e w1 ⟨rfl, hx1⟩; replace hq := hq.trans hx1; clear hx1 z0 z1 z2 z3; obtain ⟨z0, z1, z2, z3⟩ := HS.out _ hq) | (go_at_call 16; refine (HB.out.known _ (HX0.out.trans hq)).mono ?_; rintro e w4 ⟨rfl, hx4⟩))
                      go_ret
                      exact ⟨rfl, (HX0.out.trans hq).trans hx4⟩
                    | true =>
                      have hel : er.length = va.length := Decidable.not_not.1 h6
                      have htb := h11
                      unfold truthB at htb
                      simp only [Bool.and_eq_true, decide_eq_true_eq, Bool.not_eq_true', List.any_eq_false, decide_not, Decidable.not_not] at htb
                      obtain ⟨⟨htb1, htb2⟩, _⟩ := htb
                      have hrow : ∀ l, l ∈ we → (l.length : Int) = b.years := fun l hl => by have := htb1 l hl; simpa using this
                      have hob := h7
                      unfold originB at hob
                      simp only [Bool.and_eq_true, decide_eq_true_eq] at hob
                      obtain ⟨⟨ho1, ho2⟩, ho3⟩ := hob
                      obtain ⟨or1, or2⟩ := inB_iff.1 ho1
                      obtain ⟨oy1, oy2⟩ := inB_iff.1 ho2
                      obtain ⟨o1, o2⟩ := o
                      simp only at or1 or2 oy1 oy2 ho3
                      obtain ⟨rn, rfl⟩ : ∃ rn : Nat, o1 = rn := ⟨o1.toNat, by omega⟩
                      obtain ⟨yn, rfl⟩ : ∃ yn : Nat, o2 = yn := ⟨o2.toNat, by omega⟩
                      have hrl : rn < b.rivers.length := by omega
                      obtain ⟨rb, ro, gv, R, rfl, hR, c0, c1, c2, hg⟩ := HR3.out rn hrl
                      obtain ⟨ga, gc, rfl, g1, g2, g3⟩ := hg.open
                      obtain ⟨wb, wo, lv, row, rfl, hrw, d0, hrow3⟩ := HW3.out rn (by omega)
                      obtain ⟨la, lc, rfl, l1, l2, l3⟩ := hrow3.open
                      have hgl := HBO.out.len R (List.mem_of_getElem? hR.out)
                      have hll := hrow row (List.mem_of_getElem? hrw.out)
                      have hy6 := HBO.out.y2
                      have hvy := HBO.out.vary R (List.mem_of_getElem? hR.out)
                      have hcl := HBO.out.closed R (List.mem_of_getElem? hR.out)
                      have hp : (2 : Int) ^ b.years.toNat ≤ 64 := by
                        have h := HBO.out.y1
                        rcases (by omega : b.years.toNat = 1 ∨ b.years.toNat = 2 ∨ b.years.toNat = 3 ∨ b.years.toNat = 4 ∨ b.years.toNat = 5 ∨ b.years.toNat = 6) with h | h | h | h | h | h <;> rw [h] <;> decide
                      obtain ⟨c, hc⟩ : ∃ c : Nat, R.closed = c := ⟨R.closed.toNat, by omega⟩
                      have hcb := closedB_nat (y := yn) hR.out hc
                      have hc64 : c < 64 := by omega
                      have hbits := has_bits c yn (by omega)
                      have hvy1 := hvy.1
                      have hvy2 := hvy.2
                      have i1 : (0 : Int) ≤ (rn : Int) := by omega
                      have i2 : (rn : Int) < (b.rivers.length : Int) := by omega
                      have i3 : (rn : Int) < (we.length : Int) := by omega
                      have HG3 := Lib.hid g3
                      have HL3 := Lib.hid l3
                      have HD := Lib.hid (And.intro c0 (And.intro c1 (And.intro c2 d0)))
                      have HLN := Lib.hid (And.intro hgl (And.intro hll hel))
                      have HCB := Lib.hid (hbits.trans hcb.symm)
                      have HCC := Lib.hid hc
                      have hn1 : 1 ≤ va.length := by omega
                      have hny : va.length ≤ yn + 1 := by omega
                      clear g3 l3 hg hrow3 c0 c1 c2 d0 hrow htb1 htb2 hgl hll hel hvy hcl hp hcb hbits hc h4 h6
                      go_enter Tryz.func3, Tryz.ntmps3
                      go_upto_region 4 with (first | (go_at_call 11; refine (HB.out.slim _ HX0.out).mono ?_; rintro e w1 ⟨rfl, hq⟩; obtain ⟨z0, z1, z2, z3⟩ := HS.out _ hq) | (go_at_call 12; refine (HB.out.book _ (HX0.out.trans hq)).mono ?_; rintro e w1 ⟨rfl, hx1⟩; replace hq := hq.trans hx1; clear hx1 z0 z1 z2 z3; obtain ⟨z0, z1, z2, z3⟩ := HS.out _ hq) | (go_at_call 13; refine (HSR.out _ (HX0.out.trans hq)).mono ?_; rintro e w1 ⟨rfl, hx1⟩; replace hq := hq.trans hx1; clear hx1 z0 z1 z2 z3; obtain ⟨z0, z1, z2, z3⟩ := HS.out _ hq) | (go_at_call 14; refine (HOR.out _ (HX0.out.trans hq)).mono ?_; rintro e w1 ⟨rfl, hx1⟩; replace hq := hq.trans hx1; clear hx1 z0 z1 z2 z3; obtain ⟨z0, z1, z2, z3⟩ := HS.out _ hq) | (go_at_call 15; refine (HTR.out _ (HX0.out.trans hq)).mono ?_; rintro e w1 ⟨rfl, hx1⟩; replace hq := hq.trans hx1; clear hx1 z0 z1 z2 z3; obtain ⟨z0, z1, z2, z3⟩ := HS.out _ hq))
                      have d0 := (HX0.out.trans hq).cell HD.out.1
                      have d1 := (HX0.out.trans hq).cell HD.out.2.1
                      have d2 := (HX0.out.trans hq).cell HD.out.2.2.1
                      go_upto_region 6 with fail
                      obtain ⟨wL, hwL⟩ : ∃ wL, wL = (w1.alloc (.cells #[.slice ga R.grow.length gc, .int .i64 R.vary, .int .i64 R.closed] 43)).alloc (.cells #[.slice none 0 0, .int .i64 d] 45) := ⟨_, rfl⟩
                      have hxL : Ext ((w.alloc (.cells #[.int .i64 b.years, .slice (some ⟨rb, ro, none⟩) b.rivers.length rc] 24)).alloc (.cells #[.int .i64 (rn : Int), .int .i64 (yn : Int)] 27)) wL := by rw [hwL]; exact (hq.alloc _).alloc _
                      have hzL : wL.heap.size = w1.heap.size + 2 := by rw [hwL]; simp
                      have HBXL := Lib.hid (fun W (h : Ext wL W) => (⟨(HS.out _ (hxL.trans h)).1, (HS.out _ (hxL.trans h)).2.1, (HS.out _ (hxL.trans h)).2.2.1, (HS.out _ (hxL.trans h)).2.2.2⟩ : W.cell? ⟨w.heap.size, 0, none⟩ = some (.int .i64 b.years) ∧ W.cell? ⟨w.heap.size, 1, none⟩ = some (.slice (some ⟨rb, ro, none⟩) b.rivers.length rc) ∧ W.cell? ⟨w.heap.size + 1, 0, none⟩ = some (.int .i64 rn) ∧ W.cell? ⟨w.heap.size + 1, 1, none⟩ = some (.int .i64 yn)))
                      have HXW := Lib.hid (fun W (h : Ext w1 W) => (⟨(HS.out _ (hq.trans h)).1, (HS.out _ (hq.trans h)).2.1, (HS.out _ (hq.trans h)).2.2.1, (HS.out _ (hq.trans h)).2.2.2⟩ : W.cell? ⟨w.heap.size, 0, none⟩ = some (.int .i64 b.years) ∧ W.cell? ⟨w.heap.size, 1, none⟩ = some (.slice (some ⟨rb, ro, none⟩) b.rivers.length rc) ∧ W.cell? ⟨w.heap.size + 1, 0, none⟩ = some (.int .i64 rn) ∧ W.cell? ⟨w.heap.size + 1, 1, none⟩ = some (.int .i64 yn)))
                      have hb0 : wL.cell? ⟨w1.heap.size, 0, none⟩ = some (.slice ga R.grow.length gc) := by rw [hwL]; go_simp
                      have hb1 : wL.cell? ⟨w1.heap.size, 1, none⟩ = some (.int .i64 R.vary) := by rw [hwL]; go_simp
                      have hb2 : wL.cell? ⟨w1.heap.size, 2, none⟩ = some (.int .i64 R.closed) := by rw [hwL]; go_simp
                      have hs0 : wL.cell? ⟨w1.heap.size + 1, 0, none⟩ = some (.slice none 0 0) := by rw [hwL]; go_simp
                      have hs1 : wL.cell? ⟨w1.heap.size + 1, 1, none⟩ = some (.int .i64 d) := by rw [hwL]; go_simp
                      have hsf : wL.frozen? ⟨w1.heap.size + 1, 0, none⟩ = false := by rw [hwL]; go_simp
                      obtain ⟨wR, hwR⟩ : ∃ wR, wR = w1.alloc (.cells #[.slice ga R.grow.length gc, .int .i64 R.vary, .int .i64 R.closed] 43) := ⟨_, rfl⟩
                      have hxR : Ext w1 wR := by rw [hwR]; exact (Ext.refl w1).alloc _
                      have hzR : wR.heap.size = w1.heap.size + 1 := by rw [hwR]; simp
                      have hxRL : Ext wR wL := by rw [hwL, hwR]; exact (Ext.refl _).alloc _
                      have hbr : wR.cell? ⟨w1.heap.size, 0, none⟩ = some (.slice ga R.grow.length gc) ∧ wR.cell? ⟨w1.heap.size, 1, none⟩ = some (.int .i64 R.vary) ∧ wR.cell? ⟨w1.heap.size, 2, none⟩ = some (.int .i64 R.closed) := by rw [hwR]; exact ⟨by go_simp, by go_simp, by go_simp⟩
                      have hcol : ColI wR (w1.heap.size + 1) 3 1 0 [] (.slice none 0 0) (fun j => j = w1.heap.size + 1) wL := ⟨hxRL, hs0, hsf, World.ownsRow_nil _ _ _ _, fun j => ⟨.inl, fun h => h.elim id (fun h => by cases h)⟩⟩
                      have HXR := Lib.hid (HX0.out.trans (hq.trans hxR))
                      have HSR2 := Lib.hid (fun W (h : Ext wR W) => (And.intro (HXW.out W (hxR.trans h)) (⟨h.cell hbr.1, h.cell hbr.2.1, h.cell hbr.2.2⟩ : W.cell? ⟨w1.heap.size, 0, none⟩ = some (.slice ga R.grow.length gc) ∧ W.cell? ⟨w1.heap.size, 1, none⟩ = some (.int .i64 R.vary) ∧ W.cell? ⟨w1.heap.size, 2, none⟩ = some (.int .i64 R.closed))))
                      have HZR := Lib.hid hzR
                      rw [← hwL]
                      have HC0 := Lib.hid hcol
                      clear hwL hwR hq z0 z1 z2 z3 d0 d1 d2 hxL hzL hb0 hb1 hb2 hs0 hsf hxRL hbr hcol hzR
                      go_wp2
                      go_loopw [16] (fun t wr => ∃ (i : Nat) (rs : List Int) (ov : Value) (O : Nat → Prop), i ≤ va.length ∧ t = .int .i64 i ∧ rs.length = i ∧ Hid (ColI wR (w1.heap.size + 1) 3 1 i (rs.map (.int .i64)) ov O wr) ∧ wr.cell? ⟨w1.heap.size + 1, 1, none⟩ = some (.int .i64 d) ∧ Hid (∀ k x, rs[k]? = some x → ringOk (R.grow.getD (yn + 1 - va.length + k) (0, 0)) x (R.vary + d) = true)) (fun t _ => va.length - (intOf t).toNat)
                      case atStart => exact ⟨0, [], _, _, Nat.zero_le _, rfl, rfl, HC0.out, hs1, fun k x hx => by simp at hx⟩
                      case round =>
                        obtain ⟨i, rs, ov, O, hi, rfl, hrs, hcol, hc1, hok⟩ := hrel
                        obtain ⟨⟨z0, z1, z2, z3⟩, z4, z5, z6⟩ := HSR2.out _ hcol.out.ext
                        have hform : ∃ a n c, ov = .slice a n c := by obtain ⟨_, ⟨rfl, _⟩ | ⟨g, cap, cur, rfl, _⟩⟩ := hcol.out.own <;> exact ⟨_, _, _, rfl⟩
                        obtain ⟨oa, on, oc, rfl⟩ := hform
                        have hco := hcol.out.o
                        clear hs1
                        by_cases hlt : i < va.length
                        · have hlt' : decide ((i : Int) < (va.length : Int)) = true := by simpa using hlt
                          obtain ⟨q, hq⟩ : ∃ q : Nat, (yn : Int) - (va.length : Int) + 1 + (i : Int) = (q : Int) := ⟨yn + 1 - va.length + i, by omega⟩
                          have hqq : yn + 1 - va.length + i = q := by omega
                          have hqy : q ≤ yn := by omega
                          have hpl : q < R.grow.length := by have := HLN.out.1; omega
                          have hpw : q < row.length := by have := HLN.out.2.1; omega
                          obtain ⟨vb, vo, vj, rfl, hvj, k0⟩ := HV3.out i hlt
                          obtain ⟨eb, eo, ej, rfl, hej, k4⟩ := HE3.out i (by have := HLN.out.2.2; omega)
                          obtain ⟨gb, go, g, rfl, hgj, k1, k2⟩ := HG3.out q hpl
                          obtain ⟨lb, lo, wj, rfl, hwj, k3⟩ := HL3.out q hpw
                          have hxw := HXR.out.trans hcol.out.ext
                          have q0 := hxw.cell k0
                          have q1 := hxw.cell k1
                          have q2 := hxw.cell k2
                          have q3 := hxw.cell k3
                          have q4 := hxw.cell HD.out.2.2.2
                          have q5 := hxw.cell k4
                          obtain ⟨gl, gh⟩ := g
                          simp only at q1 q2
                          obtain ⟨s, hs, hs1, hv, _⟩ := year_range HBO.out hR.out (y := q) (by omega)
                          have hsg : s = (gl, gh) := by have := hgj.out; rw [hs] at this; exact Option.some.inj this
                          subst hsg
                          simp only at hs1
                          have hb0 := hs1.1
                          have hb1 := hs1.2.1
                          have hb2 := hs1.2.2
                          have p1 : (0 : Int) ≤ (q : Int) := by omega
                          have p2 : (q : Int) < (R.grow.length : Int) := by omega
                          have p3 : (q : Int) < (row.length : Int) := by omega
                          have p4 : (0 : Int) ≤ (i : Int) := by omega
                          have p5 : (i : Int) < (va.length : Int) := by omega
                          have p6 : (i : Int) < (er.length : Int) := by have := HLN.out.2.2; omega
                          have hgd : R.grow.getD q (0, 0) = (gl, gh) := by rw [List.getD_eq_getElem?_getD, hs]; rfl
                          have HGD := Lib.hid hgd
                          have HQQ := Lib.hid hqq
                          have HKV := Lib.hid (fun W (h : Ext w W) => And.intro (h.cell k0) (h.cell k4))
                          clear k0 k1 k2 k3 k4 hs hv hs1 hgj hwj hvj hej hgd hqq
                          by_cases a1 : wj < gl
                          · have t1 : decide (wj < gl) = true := by simpa using a1
                            go_upto_region 11 with fail
                            go_quiet (fail)
                            go_wp2_with (go_at_call 16; refine (HB.out.known _ (hxw.drewN _)).mono ?_; rintro e w4 ⟨rfl, hx4⟩)
                            go_ret
                            exact ⟨rfl, (hxw.drewN _).trans hx4⟩
                          · have t1 : decide (wj < gl) = false := by simpa using a1
                            by_cases a2 : gh < wj
                            · have t2 : decide (gh < wj) = true := by simpa using a2
                              go_upto_region 11 with fail
                              go_quiet (fail)
                              go_wp2_with (go_at_call 16; refine (HB.out.known _ (hxw.drewN _)).mono ?_; rintro e w4 ⟨rfl, hx4⟩)
                              go_ret
                              exact ⟨rfl, (hxw.drewN _).trans hx4⟩
                            · have t2 : decide (gh < wj) = false := by simpa using a2
                              by_cases a3 : vj < -R.vary
                              · have t13 : decide (vj < -R.vary) = true := by simpa using a3
                                go_upto_region 11 with fail
                                go_quiet (fail)
                                go_wp2_with (go_at_call 16; refine (HB.out.known _ (hxw.drewN _)).mono ?_; rintro e w4 ⟨rfl, hx4⟩)
                                go_ret
                                exact ⟨rfl, (hxw.drewN _).trans hx4⟩
                              · have t13 : decide (vj < -R.vary) = false := by simpa using a3
                                by_cases a4 : R.vary < vj
                                · have t14 : decide (R.vary < vj) = true := by simpa using a4
                                  go_upto_region 11 with fail
                                  go_quiet (fail)
                                  go_wp2_with (go_at_call 16; refine (HB.out.known _ (hxw.drewN _)).mono ?_; rintro e w4 ⟨rfl, hx4⟩)
                                  go_ret
                                  exact ⟨rfl, (hxw.drewN _).trans hx4⟩
                                · have t14 : decide (R.vary < vj) = false := by simpa using a4
                                  by_cases a5 : ej < -d
                                  · have t15 : decide (ej < -d) = true := by simpa using a5
                                    go_upto_region 11 with fail
                                    go_quiet (fail)
                                    go_wp2_with (go_at_call 16; refine (HB.out.known _ (hxw.drewN _)).mono ?_; rintro e w4 ⟨rfl, hx4⟩)
                                    go_ret
                                    exact ⟨rfl, (hxw.drewN _).trans hx4⟩
                                  · have t15 : decide (ej < -d) = false := by simpa using a5
                                    by_cases a6 : d < ej
                                    · have t16 : decide (d < ej) = true := by simpa using a6
                                      go_upto_region 11 with fail
                                      go_quiet (fail)
                                      go_wp2_with (go_at_call 16; refine (HB.out.known _ (hxw.drewN _)).mono ?_; rintro e w4 ⟨rfl, hx4⟩)
                                      go_ret
                                      exact ⟨rfl, (hxw.drewN _).trans hx4⟩
                                    · have t16 : decide (d < ej) = false := by simpa using a6
                                      have HRG := Lib.hid (ring_grown (g := (gl, gh)) (wv := wj) (va := vj) (er := ej) (vary := R.vary) (off := d) (by simp only []; omega) (by simp only []; omega) (by omega) (by omega) (by omega) (by omega))
                                      go_upto_region 11 with fail
                                      go_quiet (fail)
                                      go_upto_region 13 with fail
                                      rename_i nq
                                      obtain ⟨wq, hwq⟩ : ∃ wq, wq = wr.drewN nq := ⟨_, rfl⟩
                                      have hcq := hcol.out.ext' ((Ext.refl wr).drewN nq)
                                      have hcq1 := ((Ext.refl wr).drewN nq).cell hc1
                                      rw [← hwq] at hcq hcq1
                                      rw [← hwq]
                                      have HC := Lib.hid hcq
                                      have hKV := HKV.out _ (HXR.out.trans hcq.ext)
                                      have hv0 := hKV.1
                                      have he0 := hKV.2
                                      have ho0 := hcq.o
                                      have hf0 := hcq.f
                                      have HSZ := Lib.hid (show i + 1 ≤ maxLen ∧ (i + 1) * 8 ≤ 140737488355328 by unfold maxLen; omega)
                                      have hzq := hcq.ext.size
                                      have hzq2 : w1.heap.size + 2 ≤ wq.heap.size := lt_of_cell ho0
                                      have HZ2 := Lib.hid hzq2
                                      clear hwq hcol hc1 hco hxw q0 q1 q2 q3 q4 q5 z0 z1 z2 z3 z4 z5 z6 hcq hKV hzq hzq2 t1 t2 t13 t14 t15 t16
                                      refine wp_region_noPanic ?_
                                      refine wp_region_any (by kernel_rfl) (wpAny_of_till (z := 16) (S := (fun w' => w'.cell? ⟨w1.heap.size + 1, 0, none⟩ = some (.slice oa on oc) ∧ w'.frozen? ⟨w1.heap.size + 1, 0, none⟩ = false ∧ w'.cell? ⟨vb, vo + i, none⟩ = some (.int .i64 vj) ∧ w'.cell? ⟨eb, eo + i, none⟩ = some (.int .i64 ej) ∧ w'.cell? ⟨w1.heap.size + 1, 1, none⟩ = some (.int .i64 d))) _ _ _ _ ?_)
                                      change wpTill _ _ _ _ _ _ _ _ _ wq.drew
                                      have hS0 := (show wq.drew.cell? ⟨w1.heap.size + 1, 0, none⟩ = some (.slice oa on oc) ∧ wq.drew.frozen? ⟨w1.heap.size + 1, 0, none⟩ = false ∧ wq.drew.cell? ⟨vb, vo + i, none⟩ = some (.int .i64 vj) ∧ wq.drew.cell? ⟨eb, eo + i, none⟩ = some (.int .i64 ej) ∧ wq.drew.cell? ⟨w1.heap.size + 1, 1, none⟩ = some (.int .i64 d) from ⟨ho0, hf0, hv0, he0, hcq1⟩)
                                      refine till_at (i := 0) (d := some 161) (v := ?_) (by kernel_rfl) (by kernel_rfl) (by kernel_rfl) (by kernel_rfl) (by kernel_rfl) (fun _ _ _ h => h) (fun o ho => ?_) hS0 ?_
                                      rotate_left
                                      · simp only [List.getElem?_toArray, List.getElem?_cons_zero, Option.some.injEq] at ho
                                        subst ho
                                        refine Or.inl ⟨by rfl, fun w' hSw => ?_⟩
                                        obtain ⟨hSw0, hSw1, hSw2, hSw3, hSw4⟩ := hSw
                                        go_simp
                                        try with_reducible rfl
                                      try simp only [Act.put, List.setIfInBounds_toArray, List.set_cons_zero, List.set_cons_succ]
                                      refine till_at (i := 1) (d := some 162) (v := ?_) (by kernel_rfl) (by kernel_rfl) (by kernel_rfl) (by kernel_rfl) (by kernel_rfl) (fun _ _ _ h => h) (fun o ho => ?_) hS0 ?_
                                      rotate_left
                                      · simp only [List.getElem?_toArray, List.getElem?_cons_zero, List.getElem?_cons_succ, Option.some.injEq] at ho
                                        subst ho
                                        refine Or.inl ⟨by rfl, fun w' hSw => ?_⟩
                                        obtain ⟨hSw0, hSw1, hSw2, hSw3, hSw4⟩ := hSw
                                        go_simp
                                        try with_reducible rfl
                                      try simp only [Act.put, List.setIfInBounds_toArray, List.set_cons_zero, List.set_cons_succ]
                                      refine till_at (i := 2) (d := some 163) (v := ?_) (by kernel_rfl) (by kernel_rfl) (by kernel_rfl) (by kernel_rfl) (by kernel_rfl) (fun _ _ _ h => h) (fun o ho => ?_) hS0 ?_
                                      rotate_left
                                      · simp only [List.getElem?_toArray, List.getElem?_cons_zero, List.getElem?_cons_succ, Option.some.injEq] at ho
                                        subst ho
                                        refine Or.inl ⟨by rfl, fun w' hSw => ?_⟩
                                        obtain ⟨hSw0, hSw1, hSw2, hSw3, hSw4⟩ := hSw
                                        go_simp
                                        try with_reducible rfl
                                      try simp only [Act.put, List.setIfInBounds_toArray, List.set_cons_zero, List.set_cons_succ]
                                      refine till_at (i := 3) (d := some 164) (v := ?_) (by kernel_rfl) (by kernel_rfl) (by kernel_rfl) (by kernel_rfl) (by kernel_rfl) (fun _ _ _ h => h) (fun o ho => ?_) hS0 ?_
                                      rotate_left
                                      · simp only [List.getElem?_toArray, List.getElem?_cons_zero, List.getElem?_cons_succ, Option.some.injEq] at ho
                                        subst ho
                                        refine Or.inl ⟨by rfl, fun w' hSw => ?_⟩
                                        obtain ⟨hSw0, hSw1, hSw2, hSw3, hSw4⟩ := hSw
                                        go_simp
                                        try with_reducible rfl
                                      try simp only [Act.put, List.setIfInBounds_toArray, List.set_cons_zero, List.set_cons_succ]
                                      refine till_at (i := 4) (d := some 165) (v := ?_) (by kernel_rfl) (by kernel_rfl) (by kernel_rfl) (by kernel_rfl) (by kernel_rfl) (fun _ _ _ h => h) (fun o ho => ?_) hS0 ?_
                                      rotate_left
                                      · simp only [List.getElem?_toArray, List.getElem?_cons_zero, List.getElem?_cons_succ, Option.some.injEq] at ho
                                        subst ho
                                        refine Or.inl ⟨by rfl, fun w' hSw => ?_⟩
                                        obtain ⟨hSw0, hSw1, hSw2, hSw3, hSw4⟩ := hSw
                                        go_simp
                                        try with_reducible rfl
                                      try simp only [Act.put, List.setIfInBounds_toArray, List.set_cons_zero, List.set_cons_succ]
                                      refine till_at (i := 5) (d := some 166) (v := ?_) (by kernel_rfl) (by kernel_rfl) (by kernel_rfl) (by kernel_rfl) (by kernel_rfl) (fun _ _ _ h => h) (fun o ho => ?_) hS0 ?_
                                      rotate_left
                                      · simp only [List.getElem?_toArray, List.getElem?_cons_zero, List.getElem?_cons_succ, Option.some.injEq] at ho
                                        subst ho
                                        refine Or.inl ⟨by rfl, fun w' hSw => ?_⟩
                                        obtain ⟨hSw0, hSw1, hSw2, hSw3, hSw4⟩ := hSw
                                        go_simp
                                        try with_reducible rfl
                                      try simp only [Act.put, List.setIfInBounds_toArray, List.set_cons_zero, List.set_cons_succ]
                                      refine till_at (i := 6) (d := some 167) (v := ?_) (by kernel_rfl) (by kernel_rfl) (by kernel_rfl) (by kernel_rfl) (by kernel_rfl) (fun _ _ _ h => h) (fun o ho => ?_) hS0 ?_
                                      rotate_left
                                      · simp only [List.getElem?_toArray, List.getElem?_cons_zero, List.getElem?_cons_succ, Option.some.injEq] at ho
                                        subst ho
                                        refine Or.inl ⟨by rfl, fun w' hSw => ?_⟩
                                        obtain ⟨hSw0, hSw1, hSw2, hSw3, hSw4⟩ := hSw
                                        go_simp
                                        try with_reducible rfl
                                      try simp only [Act.put, List.setIfInBounds_toArray, List.set_cons_zero, List.set_cons_succ]
                                      refine till_at (i := 7) (d := some 168) (v := ?_) (by kernel_rfl) (by kernel_rfl) (by kernel_rfl) (by kernel_rfl) (by kernel_rfl) (fun _ _ _ h => h) (fun o ho => ?_) hS0 ?_
                                      rotate_left
                                      · simp only [List.getElem?_toArray, List.getElem?_cons_zero, List.getElem?_cons_succ, Option.some.injEq] at ho
                                        subst ho
                                        refine Or.inl ⟨by rfl, fun w' hSw => ?_⟩
                                        obtain ⟨hSw0, hSw1, hSw2, hSw3, hSw4⟩ := hSw
                                        go_simp
                                        (try rw [show IntKind.i64.wrap (wj + vj) = wj + vj from IntWalk.i64_in _ (by omega)])
                                        try with_reducible rfl
                                      try simp only [Act.put, List.setIfInBounds_toArray, List.set_cons_zero, List.set_cons_succ]
                                      refine till_at (i := 8) (d := some 169) (v := ?_) (by kernel_rfl) (by kernel_rfl) (by kernel_rfl) (by kernel_rfl) (by kernel_rfl) (fun _ _ _ h => h) (fun o ho => ?_) hS0 ?_
                                      rotate_left
                                      · simp only [List.getElem?_toArray, List.getElem?_cons_zero, List.getElem?_cons_succ, Option.some.injEq] at ho
                                        subst ho
                                        refine Or.inl ⟨by rfl, fun w' hSw => ?_⟩
                                        obtain ⟨hSw0, hSw1, hSw2, hSw3, hSw4⟩ := hSw
                                        go_simp
                                        try with_reducible rfl
                                      try simp only [Act.put, List.setIfInBounds_toArray, List.set_cons_zero, List.set_cons_succ]
                                      refine till_at (i := 9) (d := some 170) (v := ?_) (by kernel_rfl) (by kernel_rfl) (by kernel_rfl) (by kernel_rfl) (by kernel_rfl) (fun _ _ _ h => h) (fun o ho => ?_) hS0 ?_
                                      rotate_left
                                      · simp only [List.getElem?_toArray, List.getElem?_cons_zero, List.getElem?_cons_succ, Option.some.injEq] at ho
                                        subst ho
                                        refine Or.inl ⟨by rfl, fun w' hSw => ?_⟩
                                        obtain ⟨hSw0, hSw1, hSw2, hSw3, hSw4⟩ := hSw
                                        go_simp
                                        try with_reducible rfl
                                      try simp only [Act.put, List.setIfInBounds_toArray, List.set_cons_zero, List.set_cons_succ]
                                      refine till_at (i := 10) (d := some 171) (v := ?_) (by kernel_rfl) (by kernel_rfl) (by kernel_rfl) (by kernel_rfl) (by kernel_rfl) (fun _ _ _ h => h) (fun o ho => ?_) hS0 ?_
                                      rotate_left
                                      · simp only [List.getElem?_toArray, List.getElem?_cons_zero, List.getElem?_cons_succ, Option.some.injEq] at ho
                                        subst ho
                                        refine Or.inl ⟨by rfl, fun w' hSw => ?_⟩
                                        obtain ⟨hSw0, hSw1, hSw2, hSw3, hSw4⟩ := hSw
                                        go_simp
                                        try with_reducible rfl
                                      try simp only [Act.put, List.setIfInBounds_toArray, List.set_cons_zero, List.set_cons_succ]
                                      refine till_at (i := 11) (d := some 172) (v := ?_) (by kernel_rfl) (by kernel_rfl) (by kernel_rfl) (by kernel_rfl) (by kernel_rfl) (fun _ _ _ h => h) (fun o ho => ?_) hS0 ?_
                                      rotate_left
                                      · simp only [List.getElem?_toArray, List.getElem?_cons_zero, List.getElem?_cons_succ, Option.some.injEq] at ho
                                        subst ho
                                        refine Or.inl ⟨by rfl, fun w' hSw => ?_⟩
                                        obtain ⟨hSw0, hSw1, hSw2, hSw3, hSw4⟩ := hSw
                                        go_simp
                                        try with_reducible rfl
                                      try simp only [Act.put, List.setIfInBounds_toArray, List.set_cons_zero, List.set_cons_succ]
                                      refine till_at (i := 12) (d := some 173) (v := ?_) (by kernel_rfl) (by kernel_rfl) (by kernel_rfl) (by kernel_rfl) (by kernel_rfl) (fun _ _ _ h => h) (fun o ho => ?_) hS0 ?_
                                      rotate_left
                                      · simp only [List.getElem?_toArray, List.getElem?_cons_zero, List.getElem?_cons_succ, Option.some.injEq] at ho
                                        subst ho
                                        refine Or.inl ⟨by rfl, fun w' hSw => ?_⟩
                                        obtain ⟨hSw0, hSw1, hSw2, hSw3, hSw4⟩ := hSw
                                        go_simp
                                        (try rw [show IntKind.i64.wrap (wj + vj + ej) = wj + vj + ej from IntWalk.i64_in _ (by omega)])
                                        try with_reducible rfl
                                      try simp only [Act.put, List.setIfInBounds_toArray, List.set_cons_zero, List.set_cons_succ]
                                      refine till_step (i := 13) (by kernel_rfl) (by kernel_rfl) (fun o ho K' hK => ?_)
                                      simp only [List.getElem?_toArray, List.getElem?_cons_zero, List.getElem?_cons_succ, Option.some.injEq] at ho
                                      subst ho
                                      go_simp
                                      have hS13 := (show (wq.drew.alloc (.cells #[.int .i64 (wj + vj + ej)] 3)).cell? ⟨w1.heap.size + 1, 0, none⟩ = some (.slice oa on oc) ∧ (wq.drew.alloc (.cells #[.int .i64 (wj + vj + ej)] 3)).frozen? ⟨w1.heap.size + 1, 0, none⟩ = false ∧ (wq.drew.alloc (.cells #[.int .i64 (wj + vj + ej)] 3)).cell? ⟨vb, vo + i, none⟩ = some (.int .i64 vj) ∧ (wq.drew.alloc (.cells #[.int .i64 (wj + vj + ej)] 3)).cell? ⟨eb, eo + i, none⟩ = some (.int .i64 ej) ∧ (wq.drew.alloc (.cells #[.int .i64 (wj + vj + ej)] 3)).cell? ⟨w1.heap.size + 1, 1, none⟩ = some (.int .i64 d) from ⟨((Ext.refl wq).drew.alloc _).cell ho0, (((Ext.refl wq).drew.alloc _).frozen (lt_of_cell ho0)).trans hf0, ((Ext.refl wq).drew.alloc _).cell hv0, ((Ext.refl wq).drew.alloc _).cell he0, ((Ext.refl wq).drew.alloc _).cell hcq1⟩)
                                      refine hK.out _ _ (fun _ => hS13) (fun _ => ?_)
                                      clear hK K'
                                      try simp only [Act.put, List.setIfInBounds_toArray, List.set_cons_zero, List.set_cons_succ]
                                      refine till_step (i := 14) (by kernel_rfl) (by kernel_rfl) (fun o ho K' hK => ?_)
                                      simp only [List.getElem?_toArray, List.getElem?_cons_zero, List.getElem?_cons_succ, Option.some.injEq] at ho
                                      subst ho
                                      refine step_push_at E_ints (by rfl) _ _ (by rfl) (w1.heap.size + 1 + 1) (by rfl) (owns_ext HC.out.own (Ext.refl wq).drew) (by rfl) (by rfl) (by rfl) (by simp [Value.oneCell']) ?_ HSZ.out.1 HSZ.out.2 (by have := HZ2.out; exact this)
                                      intro g9 cap9 w9 hown9 hg9 hloc9
                                      have hpp := HC.out.push (by have := HZR.out; omega) (Ext.refl wq).drew hown9 hg9 hloc9
                                      have hx9 : Ext wR w9 := (HC.out.ext.trans ((Ext.refl wq).drew.alloc _)).grown hg9 (fun b hb => by have h1 := owns_block HC.out.own b hb; have h2 := HZR.out; omega)
                                      have hT9 := (Touch.of_ext ((Ext.refl wq).drew.alloc (.cells #[.int .i64 (wj + vj + ej)] 3))).trans (Touch.grown (M := fun i => (Value.slice oa on oc).ownBlock = some i) hg9 (fun i hi => hi))
                                      have hd9 := hT9.cell hcq1 (fun hb => by have h1 := owns_block HC.out.own _ hb; simp only at h1; omega)
                                      have hk9 := HKV.out _ (HXR.out.trans hx9)
                                      have hc9 := hpp.1.1
                                      have hf9 := hpp.1.2
                                      have hv9 := hk9.1
                                      have he9 := hk9.2
                                      have HPP := Lib.hid hpp
                                      clear hpp hk9 hT9 hx9 hown9 hg9 hloc9
                                      have hS14 := (show w9.cell? ⟨w1.heap.size + 1, 0, none⟩ = some (.slice oa on oc) ∧ w9.frozen? ⟨w1.heap.size + 1, 0, none⟩ = false ∧ w9.cell? ⟨vb, vo + i, none⟩ = some (.int .i64 vj) ∧ w9.cell? ⟨eb, eo + i, none⟩ = some (.int .i64 ej) ∧ w9.cell? ⟨w1.heap.size + 1, 1, none⟩ = some (.int .i64 d) from ⟨hc9, hf9, hv9, he9, hd9⟩)
                                      refine hK.out _ _ (fun _ => hS14) (fun _ => ?_)
                                      clear hK K'
                                      try simp only [Act.put, List.setIfInBounds_toArray, List.set_cons_zero, List.set_cons_succ]
                                      refine till_at (i := 15) (d := some 176) (v := ?_) (by kernel_rfl) (by kernel_rfl) (by kernel_rfl) (by kernel_rfl) (by kernel_rfl) (fun _ _ _ h => h) (fun o ho => ?_) hS14 ?_
                                      rotate_left
                                      · simp only [List.getElem?_toArray, List.getElem?_cons_zero, List.getElem?_cons_succ, Option.some.injEq] at ho
                                        subst ho
                                        refine Or.inl ⟨by rfl, fun w' hSw => ?_⟩
                                        obtain ⟨hSw0, hSw1, hSw2, hSw3, hSw4⟩ := hSw
                                        go_simp
                                        try with_reducible rfl
                                      try simp only [Act.put, List.setIfInBounds_toArray, List.set_cons_zero, List.set_cons_succ]
                                      refine till_step (i := 16) (by kernel_rfl) (by kernel_rfl) (fun o ho K' hK => ?_)
                                      simp only [List.getElem?_toArray, List.getElem?_cons_zero, List.getElem?_cons_succ, Option.some.injEq] at ho
                                      subst ho
                                      go_simp
                                      refine hK.out _ _ (fun h => absurd rfl h) (fun _ => ?_)
                                      clear hK K'
                                      try simp only [Act.put, List.setIfInBounds_toArray, List.set_cons_zero, List.set_cons_succ]
                                      refine till_done (by kernel_rfl) ?_ _
                                      refine NoPanic.normal ?_
                                      try simp only [Act.put, List.setIfInBounds_toArray, List.set_cons_zero, List.set_cons_succ]
                                      have hRES : ColI wR (w1.heap.size + 1) 3 1 (i + 1) ((rs ++ [wj + vj + ej]).map (.int .i64)) (.slice (some ⟨g9, 0, none⟩) (i + 1) cap9) (fun j => j = w1.heap.size + 1 ∨ j = g9) (w9.setCell ⟨w1.heap.size + 1, 0, none⟩ (.slice (some ⟨g9, 0, none⟩) (i + 1) cap9)) := by rw [List.map_append]; exact HPP.out.2.2.2
                                      have HRES := Lib.hid hRES
                                      have hD9 : (w9.setCell ⟨w1.heap.size + 1, 0, none⟩ (.slice (some ⟨g9, 0, none⟩) (i + 1) cap9)).cell? ⟨w1.heap.size + 1, 1, none⟩ = some (.int .i64 d) := by go_simp
                                      have HOK : Hid (∀ k x, (rs ++ [wj + vj + ej])[k]? = some x → ringOk (R.grow.getD (yn + 1 - va.length + k) (0, 0)) x (R.vary + d) = true) := fun k x hx => by
                                        by_cases hk : k < i
                                        · rw [List.getElem?_append_left (by omega)] at hx; exact hok.out k x hx
                                        · have hk2 : k < (rs ++ [wj + vj + ej]).length := (List.getElem?_eq_some_iff.1 hx).1
                                          rw [List.length_append, List.length_singleton] at hk2
                                          obtain rfl : k = i := by omega
                                          rw [List.getElem?_append_right (by omega), show k - rs.length = 0 by omega] at hx
                                          obtain rfl : wj + vj + ej = x := by simpa using hx
                                          rw [HQQ.out, HGD.out]; exact HRG.out
                                      generalize w9.setCell ⟨w1.heap.size + 1, 0, none⟩ (.slice (some ⟨g9, 0, none⟩) (i + 1) cap9) = wS at *
                                      have HD9 := Lib.hid hD9
                                      clear hRES hD9 hok
                                      go_wp2
                                      go_roundw
                                      case rel => exact ⟨i + 1, rs ++ [wj + vj + ej], _, _, by omega, by go_num, by rw [List.length_append, hrs]; rfl, HRES.out.ext' (by repeat (first | exact Ext.refl _ | apply Ext.drew)), HD9.out, HOK⟩
                                      case measure => simp [intOf]; omega
                        · have hlt' : decide ((i : Int) < (va.length : Int)) = false := by simpa using hlt
                          have hie : i = va.length := by omega
                          subst hie
                          have hin : IntsAt wr (.slice oa on oc) rs := by
                            have h := RowAt.of_owns hcol.out.own
                            unfold IntsAt; rw [hrs]; exact h
                          have HIN := Lib.hid hin
                          have HXC := Lib.hid (HXR.out.trans hcol.out.ext)
                          have HSH2 := Lib.hid (fun w3 (h : Ext wr w3) => rshell_any (.agg #[.slice oa on oc, .int .i64 d]) ⟨rs, d⟩ w3 ⟨_, rfl, IntsAt.ext HIN.out h⟩)
                          have HSC := Lib.hid (fun W (h : Ext wr W) => (And.intro (HSR2.out W (hcol.out.ext.trans h)) (⟨h.cell hco, h.cell hc1⟩ : W.cell? ⟨w1.heap.size + 1, 0, none⟩ = some (.slice oa on oc) ∧ W.cell? ⟨w1.heap.size + 1, 1, none⟩ = some (.int .i64 d))))
                          clear hin hcol
                          cases hsh : isShellB ⟨rs, d⟩ with
                          | false =>
                            rw [hsh] at HSH2
                            go_wp2_with (first
                              | (go_at_call 17; refine (HSH2.out _ (Ext.refl _)).mono ?_; rintro e w3 ⟨rfl, hx3⟩)
                              | (go_at_call 16; refine (HB.out.known _ (HXC.out.trans hx3)).mono ?_; rintro e w4 ⟨rfl, hx4⟩))
                            go_ret
                            exact ⟨rfl, (HXC.out.trans hx3).trans hx4⟩
                          | true =>
                            rw [hsh] at HSH2
                            have hS := shellB_of hsh
                            have harg : couldArg b ⟨rs, d⟩ = true := by unfold couldArg; rw [h2, hsh]; rfl
                            have hmem := grown_could HBO.out hR.out (by omega) hrs hn1 hny hS hok.out
                            have hlen := could_len HBO.out hS
                            have hwr := word_range b (couldOf b (oneOf ⟨rs, d⟩) 0)
                            have hwn := fun h => word_never (b := b) (l := couldOf b (oneOf ⟨rs, d⟩) 0) h hmem
                            have hws := fun h => word_surely (b := b) (l := couldOf b (oneOf ⟨rs, d⟩) 0) h hmem
                            have HCO := Lib.hid (fun w3 (h : Ext wr w3) => Could_ok (sv := .agg #[.slice oa on oc, .int .i64 d]) (HBB.out w3 (HXC.out.trans h)) ⟨_, rfl, IntsAt.ext HIN.out h⟩ harg)
                            have HWO := Lib.hid (fun w3 (h : Ext wr w3) => Word_ok (sv := .agg #[.slice oa on oc, .int .i64 d]) (HBB.out w3 (HXC.out.trans h)) ⟨_, rfl, IntsAt.ext HIN.out h⟩ harg)
                            have HMM := Lib.hid (And.intro hmem hlen)
                            clear hS harg hmem hlen hsh hok hrs
                            generalize couldOf b (oneOf ⟨rs, d⟩) 0 = cl at *
                            generalize wordOf b cl = W3 at *
                            have hbt := HCB.out
                            rw [HCC.out] at z6 HSC
                            go_upto_region 16 with (go_at_call 17; refine (HSH2.out _ (Ext.refl _)).mono ?_; rintro e w3 ⟨rfl, hq3⟩; clear z0 z1 z2 z3 z4 z5 z6 hco hc1; obtain ⟨⟨⟨z0, z1, z2, z3⟩, z4, z5, z6⟩, hco, hc1⟩ := HSC.out _ hq3)
                            go_upto_region 17 with (go_at_call 18; refine (HCO.out _ hq3).mono ?_; rintro e w5 ⟨la, lc, rfl, hx5, hpl⟩; replace hq3 := hq3.trans hx5; have HPL := Lib.hid hpl; clear hx5 hpl z0 z1 z2 z3 z4 z5 z6 hco hc1; obtain ⟨⟨⟨z0, z1, z2, z3⟩, z4, z5, z6⟩, hco, hc1⟩ := HSC.out _ hq3)
                            have HPE := Lib.hid (fun W (h : Ext w5 W) => HPL.out.ext h)
                            have HX5 := Lib.hid hq3
                            clear hq3
                            go_upto_region 18 with (go_at_call 19; refine (HWO.out _ HX5.out).mono ?_; rintro e w6 ⟨rfl, hx6⟩; clear z0 z1 z2 z3 z4 z5 z6 hco hc1; obtain ⟨⟨⟨z0, z1, z2, z3⟩, z4, z5, z6⟩, hco, hc1⟩ := HSC.out _ (HX5.out.trans hx6))
                            have y6 : (yn : Int) < 64 := by omega
                            rcases hwr with rfl | rfl | rfl
                            · have hcw := hwn rfl
                              rw [hcw] at hbt
                              clear hcw hwn hws
                              go_wp2_with (first
                                | (go_at_call 20; refine (has_yes (o := ((rn : Int), (yn : Int))) (HPE.out _ hx6) (by have := HMM.out.2; omega) HMM.out.1).mono ?_; rintro e w7 ⟨rfl, hx7⟩; replace hx6 := hx6.trans hx7; clear hx7 z0 z1 z2 z3 z4 z5 z6 hco hc1; obtain ⟨⟨⟨z0, z1, z2, z3⟩, z4, z5, z6⟩, hco, hc1⟩ := HSC.out _ (HX5.out.trans hx6))
                                | (go_at_call 16; refine (HB.out.known _ (HXC.out.trans (HX5.out.trans hx6))).mono ?_; rintro e w8 ⟨rfl, hx8⟩))
                              go_ret
                              exact ⟨rfl, (HXC.out.trans (HX5.out.trans hx6)).trans hx8⟩
                            · cases hcw : closedB b ((rn : Int), (yn : Int)) with
                              | false =>
                                rw [hcw] at hbt
                                clear hcw hwn hws
                                go_wp2_with (first
                                  | (go_at_call 20; refine (has_yes (o := ((rn : Int), (yn : Int))) (HPE.out _ hx6) (by have := HMM.out.2; omega) HMM.out.1).mono ?_; rintro e w7 ⟨rfl, hx7⟩; replace hx6 := hx6.trans hx7; clear hx7 z0 z1 z2 z3 z4 z5 z6 hco hc1; obtain ⟨⟨⟨z0, z1, z2, z3⟩, z4, z5, z6⟩, hco, hc1⟩ := HSC.out _ (HX5.out.trans hx6))
                                  | (go_at_call 16; refine (HB.out.known _ (HXC.out.trans (HX5.out.trans hx6))).mono ?_; rintro e w8 ⟨rfl, hx8⟩))
                                go_ret
                                exact ⟨rfl, (HXC.out.trans (HX5.out.trans hx6)).trans hx8⟩
                              | true =>
                                rw [hcw] at hbt
                                clear hcw hwn hws
                                go_wp2_with (first
                                  | (go_at_call 20; refine (has_yes (o := ((rn : Int), (yn : Int))) (HPE.out _ hx6) (by have := HMM.out.2; omega) HMM.out.1).mono ?_; rintro e w7 ⟨rfl, hx7⟩; replace hx6 := hx6.trans hx7; clear hx7 z0 z1 z2 z3 z4 z5 z6 hco hc1; obtain ⟨⟨⟨z0, z1, z2, z3⟩, z4, z5, z6⟩, hco, hc1⟩ := HSC.out _ (HX5.out.trans hx6))
                                  | (go_at_call 16; refine (HB.out.known _ (HXC.out.trans (HX5.out.trans hx6))).mono ?_; rintro e w8 ⟨rfl, hx8⟩))
                                go_ret
                                exact ⟨rfl, (HXC.out.trans (HX5.out.trans hx6)).trans hx8⟩
                            · have hcw := hws rfl
                              rw [hcw] at hbt
                              clear hcw hwn hws
                              go_wp2_with (first
                                | (go_at_call 20; refine (has_yes (o := ((rn : Int), (yn : Int))) (HPE.out _ hx6) (by have := HMM.out.2; omega) HMM.out.1).mono ?_; rintro e w7 ⟨rfl, hx7⟩; replace hx6 := hx6.trans hx7; clear hx7 z0 z1 z2 z3 z4 z5 z6 hco hc1; obtain ⟨⟨⟨z0, z1, z2, z3⟩, z4, z5, z6⟩, hco, hc1⟩ := HSC.out _ (HX5.out.trans hx6))
                                | (go_at_call 16; refine (HB.out.known _ (HXC.out.trans (HX5.out.trans hx6))).mono ?_; rintro e w8 ⟨rfl, hx8⟩))
                              go_ret
                              exact ⟨rfl, (HXC.out.trans (HX5.out.trans hx6)).trans hx8⟩
end Go.Proofs.YtabkfohbdfpdpaaGreatDoor
