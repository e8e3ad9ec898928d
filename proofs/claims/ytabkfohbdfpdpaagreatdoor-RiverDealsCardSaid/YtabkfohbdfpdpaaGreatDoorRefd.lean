/- The reference's Closed, good, Rest. -/
import Derived.Test.YtabkfohbdfpdpaaGreatDoorRefs
import Derived.Test.YtabkfohbdfpdpaaGreatDoorDealq8
namespace Go.Proofs.YtabkfohbdfpdpaaGreatDoor
open Go.RowKit

set_option maxRecDepth 100000 in
set_option maxHeartbeats 2000000 in
theorem rclosed_any (v : Value) (b : Book) (r y : Nat) (w : World) (hb : BookAt w v b) (hB : BookB b) (hr : r < b.rivers.length) (hy : (y : Int) < b.years) :
    Calls Tryz.prog 46 #[v, .agg #[.int .i64 (r : Int), .int .i64 (y : Int)]] w fun e w' => e = .returned (.bool (closedB b ((r : Int), (y : Int)))) ∧ Ext w w' := by
  obtain ⟨ra, rc, rfl, hr0⟩ := hb.slice
  obtain ⟨_, _, hvr, r1, r2, r3⟩ := hr0.open
  cases hvr
  obtain ⟨rb, ro, gv, R, rfl, hR, c0, c1, c2, hg⟩ := r3 r hr
  obtain ⟨ga, gc, rfl, _⟩ := hg.open
  have hcl := hB.closed R (List.mem_of_getElem? hR.out)
  have hp : (2 : Int) ^ b.years.toNat ≤ 64 := by
    have h := hB.y1
    have h6 := hB.y2
    rcases (by omega : b.years.toNat = 1 ∨ b.years.toNat = 2 ∨ b.years.toNat = 3 ∨ b.years.toNat = 4 ∨ b.years.toNat = 5 ∨ b.years.toNat = 6) with h | h | h | h | h | h <;> rw [h] <;> decide
  obtain ⟨c, hc⟩ : ∃ c : Nat, R.closed = c := ⟨R.closed.toNat, by omega⟩
  have hcb := closedB_nat (y := y) hR.out hc
  have hc64 : c < 64 := by omega
  have hbt := (has_bits c y (by omega)).trans hcb.symm
  rw [hc] at c2
  have HX0 := Lib.hid (((Ext.refl w).alloc _).alloc _ : Ext w ((w.alloc (.cells #[.int .i64 b.years, .slice (some ⟨rb, ro, none⟩) b.rivers.length rc] 24)).alloc (.cells #[.int .i64 (r : Int), .int .i64 (y : Int)] 27)))
  have d2 := HX0.out.cell c2
  have y6 : (y : Int) < 64 := by have := hB.y2; omega
  have i1 : (0 : Int) ≤ (r : Int) := by omega
  have i2 : (r : Int) < (b.rivers.length : Int) := by omega
  clear hb hr0 r3 c0 c1 c2 hg hcl hp hcb hc hR hB
  go_enter Tryz.func46, Tryz.ntmps46
  go_upto_region 1 with fail
  go_quiet (fail)
  go_wp2
  go_ret
  exact ⟨rfl, HX0.out.drewN _⟩

/-! ### good -/
theorem goodB_iff {b : Book} {x : Licence} {r lo hi : Nat} {m : Int} (hl : lo ≤ hi) : goodB b x ⟨r, lo, hi, m⟩ = true ↔ x.river = r ∧ ∀ k : Nat, lo ≤ k → k ≤ hi → inB (k : Int) x.first x.last = true ∧ closedB b ((r : Int), (k : Int)) = false := by
  unfold goodB
  rw [Bool.and_eq_true, Bool.not_eq_true', Bool.not_eq_true', List.any_eq_false, Bool.or_eq_false_iff, Bool.or_eq_false_iff, decide_eq_false_iff_not, decide_eq_false_iff_not, decide_eq_false_iff_not]
  simp only [List.mem_range, ne_eq, Decidable.not_not, inB_iff]
  constructor
  · rintro ⟨⟨⟨h1, h2⟩, h3⟩, h4⟩
    refine ⟨h1, fun k k1 k2 => ⟨⟨by omega, by omega⟩, ?_⟩⟩
    have := h4 (k - lo) (by omega)
    rw [show (lo : Int) + ((k - lo : Nat) : Int) = (k : Int) by omega] at this
    simpa using this
  · rintro ⟨h1, h2⟩
    have a1 := (h2 lo (Nat.le_refl _) hl).1
    have a2 := (h2 hi hl (Nat.le_refl _)).1
    refine ⟨⟨⟨h1, by omega⟩, by omega⟩, fun k hk => ?_⟩
    have := (h2 (lo + k) (by omega) (by omega)).2
    rw [Int.natCast_add] at this
    simpa using this
set_option maxRecDepth 100000 in
set_option maxHeartbeats 4000000 in
theorem rgood_any (v : Value) (b : Book) (x : Licence) (r lo hi : Nat) (m : Int) (w : World) (hb : BookAt w v b) (hB : BookB b) (hr : r < b.rivers.length) (hh : (hi : Int) < b.years) (hl : lo ≤ hi) :
    Calls Tryz.prog 83 #[v, .agg #[.int .i64 x.river, .int .i64 x.first, .int .i64 x.last, .int .i64 x.quota], .agg #[.int .i64 (r : Int), .int .i64 (lo : Int), .int .i64 (hi : Int), .int .i64 m]] w fun e w' => e = .returned (.bool (goodB b x ⟨r, lo, hi, m⟩)) ∧ Ext w w' := by
  have HCL := Lib.hid (fun (y : Nat) w1 (hy : (y : Int) < b.years) (h : Ext w w1) => rclosed_any v b r y w1 (hb.ext h) hB hr hy)
  obtain ⟨ra, rc, rfl, _⟩ := hb.slice
  have hy6 := hB.y2
  have HX0 := Lib.hid ((((Ext.refl w).alloc _).alloc _).alloc _ : Ext w (((w.alloc (.cells #[.int .i64 b.years, .slice ra b.rivers.length rc] 24)).alloc (.cells #[.int .i64 x.river, .int .i64 x.first, .int .i64 x.last, .int .i64 x.quota] 89)).alloc (.cells #[.int .i64 (r : Int), .int .i64 (lo : Int), .int .i64 (hi : Int), .int .i64 m] 134)))
  have HS := Lib.hid (fun W (h : Ext (((w.alloc (.cells #[.int .i64 b.years, .slice ra b.rivers.length rc] 24)).alloc (.cells #[.int .i64 x.river, .int .i64 x.first, .int .i64 x.last, .int .i64 x.quota] 89)).alloc (.cells #[.int .i64 (r : Int), .int .i64 (lo : Int), .int .i64 (hi : Int), .int .i64 m] 134)) W) => (⟨⟨h.cell (by go_simp), h.cell (by go_simp)⟩, ⟨h.cell (by go_simp), h.cell (by go_simp), h.cell (by go_simp)⟩, h.cell (by go_simp), h.cell (by go_simp), h.cell (by go_simp)⟩ : (W.cell? ⟨w.heap.size, 0, none⟩ = some (.int .i64 b.years) ∧ W.cell? ⟨w.heap.size, 1, none⟩ = some (.slice ra b.rivers.length rc)) ∧ (W.cell? ⟨w.heap.size + 1, 0, none⟩ = some (.int .i64 x.river) ∧ W.cell? ⟨w.heap.size + 1, 1, none⟩ = some (.int .i64 x.first) ∧ W.cell? ⟨w.heap.size + 1, 2, none⟩ = some (.int .i64 x.last)) ∧ W.cell? ⟨w.heap.size + 2, 0, none⟩ = some (.int .i64 (r : Int)) ∧ W.cell? ⟨w.heap.size + 2, 1, none⟩ = some (.int .i64 (lo : Int)) ∧ W.cell? ⟨w.heap.size + 2, 2, none⟩ = some (.int .i64 (hi : Int))))
  have HGI := Lib.hid (goodB_iff (b := b) (x := x) (r := r) (m := m) hl)
  clear hb hB
  go_enter Tryz.func83, Tryz.ntmps83
  go_wp2
  go_loopw [7] (fun i wr => ∃ p : Nat, lo ≤ p ∧ p ≤ hi + 1 ∧ i = .int .i64 p ∧ Hid (∀ k : Nat, lo ≤ k → k < p → inB (k : Int) x.first x.last = true ∧ closedB b ((r : Int), (k : Int)) = false) ∧ Ext (((w.alloc (.cells #[.int .i64 b.years, .slice ra b.rivers.length rc] 24)).alloc (.cells #[.int .i64 x.river, .int .i64 x.first, .int .i64 x.last, .int .i64 x.quota] 89)).alloc (.cells #[.int .i64 (r : Int), .int .i64 (lo : Int), .int .i64 (hi : Int), .int .i64 m] 134)) wr) (fun i _ => hi + 1 - (intOf i).toNat)
  case atStart => exact ⟨lo, Nat.le_refl _, by omega, rfl, fun k h1 h2 => by omega, Ext.refl _⟩
  case round =>
    obtain ⟨p, hp1, hp2, rfl, hno, hx⟩ := hrel
    obtain ⟨⟨z0, z1⟩, ⟨z2, z3, z4⟩, z5, z6, z7⟩ := HS.out _ hx
    by_cases hlt : p ≤ hi
    · have x2 : decide ((p : Int) ≤ (hi : Int)) = true := by simpa using hlt
      cases hin : inB (p : Int) x.first x.last with
      | false =>
        have HI := Lib.hid (fun w1 => hin ▸ rin_any (p : Int) x.first x.last w1)
        have HN : Hid (goodB b x ⟨r, lo, hi, m⟩ = false) := by
          unfold Hid; rw [Bool.eq_false_iff]; intro h; have := ((HGI.out.1 h).2 p hp1 hlt).1; rw [hin] at this; cases this
        clear hin
        go_wp2_with (go_at_call 50; refine (HI.out _).mono ?_; rintro e w' ⟨rfl, rfl⟩)
        go_ret
        exact ⟨by rw [HN.out] <;> rfl, HX0.out.trans hx⟩
      | true =>
        have HI := Lib.hid (fun w1 => hin ▸ rin_any (p : Int) x.first x.last w1)
        have HC := Lib.hid (fun w1 (h : Ext w w1) => HCL.out p w1 (by omega) h)
        cases hcl : closedB b ((r : Int), (p : Int)) with
        | true =>
          rw [hcl] at HC
          have HN : Hid (goodB b x ⟨r, lo, hi, m⟩ = false) := by
            unfold Hid; rw [Bool.eq_false_iff]; intro h; have := ((HGI.out.1 h).2 p hp1 hlt).2; rw [hcl] at this; cases this
          clear hin hcl
          go_wp2_with (first | (go_at_call 50; refine (HI.out _).mono ?_; rintro e w' ⟨rfl, rfl⟩) | (go_at_call 46; refine (HC.out _ (HX0.out.trans hx)).mono ?_; rintro e w2 ⟨rfl, hx2⟩))
          go_ret
          exact ⟨by rw [HN.out] <;> rfl, HX0.out.trans (hx.trans hx2)⟩
        | false =>
          rw [hcl] at HC
          have HN : Hid (∀ k : Nat, lo ≤ k → k < p + 1 → inB (k : Int) x.first x.last = true ∧ closedB b ((r : Int), (k : Int)) = false) := fun k h1 h2 => by
            by_cases h : k < p
            · exact hno.out k h1 h
            · obtain rfl : k = p := by omega
              exact ⟨hin, hcl⟩
          clear hin hcl
          go_wp2_with (first | (go_at_call 50; refine (HI.out _).mono ?_; rintro e w' ⟨rfl, rfl⟩) | (go_at_call 46; refine (HC.out _ (HX0.out.trans hx)).mono ?_; rintro e w2 ⟨rfl, hx2⟩))
          go_roundw
          case rel => exact ⟨p + 1, by omega, by omega, by go_num, HN, hx.trans hx2⟩
          case measure => simp [intOf]; omega
    · have x2 : decide ((p : Int) ≤ (hi : Int)) = false := by simp; omega
      have HN : Hid (goodB b x ⟨r, lo, hi, m⟩ = (x.river == (r : Int))) := by
        unfold Hid
        rw [Bool.eq_iff_iff, HGI.out, beq_iff_eq]
        exact ⟨fun h => h.1, fun h => ⟨h, fun k k1 k2 => hno.out k k1 (by omega)⟩⟩
      go_wp2
      go_ret
      exact ⟨by rw [HN.out] <;> rfl, HX0.out.trans hx⟩

/-! ### Rest -/
def restTo (ts : List Take) (d : List Int) (k : Nat) : Int := restOf (ts.take k) (d.take k)
theorem restOf_app : ∀ (ts : List Take) (ns : List Int) (t : Take) (n : Int), ts.length = ns.length → restOf (ts ++ [t]) (ns ++ [n]) = restOf ts ns + (if n < 0 then t.many else 0)
  | [], [], t, n, _ => by show _ + (0 : Int) = 0 + _; omega
  | t' :: ts, n' :: ns, t, n, h => by
    have ih := restOf_app ts ns t n (by simpa using h)
    show (if n' < 0 then t'.many else 0) + restOf (ts ++ [t]) (ns ++ [n]) = ((if n' < 0 then t'.many else 0) + restOf ts ns) + _
    rw [ih]; omega
  | [], _ :: _, _, _, h => by simp at h
  | _ :: _, [], _, _, h => by simp at h
theorem restTo_succ {ts : List Take} {d : List Int} {k : Nat} {t : Take} {n : Int} (ht : ts[k]? = some t) (hd : d[k]? = some n) : restTo ts d (k + 1) = restTo ts d k + (if n < 0 then t.many else 0) := by
  unfold restTo
  have h1 := (List.getElem?_eq_some_iff.1 ht).1
  have h2 := (List.getElem?_eq_some_iff.1 hd).1
  rw [List.take_add_one, List.take_add_one, ht, hd]
  exact restOf_app _ _ _ _ (by rw [List.length_take, List.length_take]; omega)
set_option maxRecDepth 100000 in
set_option maxHeartbeats 2000000 in
theorem rrest_any (tv dv : Value) (ts : List Take) (d : List Int) (w : World) (ht : RowOf takC w tv ts) (hd : IntsAt w dv d) (hl : d.length ≤ ts.length) (hm : ∀ t, t ∈ ts → 0 ≤ t.many ∧ t.many ≤ 100) (h8 : ts.length ≤ 8) :
    Calls Tryz.prog 39 #[tv, dv] w fun e w' => e = .returned (.int .i64 (restTo ts d d.length)) ∧ Ext w w' := by
  obtain ⟨ta, tc, rfl, t1, t2, t3⟩ := RowOf.open4 (f0 := fun (x : Take) => Value.int .i64 x.river) (f1 := fun (x : Take) => Value.int .i64 x.low) (f2 := fun (x : Take) => Value.int .i64 x.high) (f3 := fun (x : Take) => Value.int .i64 x.many) (fun _ => rfl) ht
  obtain ⟨da, dc, rfl, d1, d2, d3⟩ := hd.open
  have HT := Lib.hid t3
  have HD := Lib.hid d3
  have HM := Lib.hid hm
  clear ht hd t3 d3 hm
  go_enter Tryz.func39, Tryz.ntmps39
  go_wp2
  go_loopw [5, 6] (fun n i wr => ∃ k : Nat, k ≤ d.length ∧ i = .int .i64 k ∧ n = .int .i64 (restTo ts d k) ∧ 0 ≤ restTo ts d k ∧ restTo ts d k ≤ 100 * k ∧ Ext w wr) (fun _ i _ => d.length - (intOf i).toNat)
  case atStart => exact ⟨0, Nat.zero_le _, rfl, rfl, Int.le_refl _, Int.le_refl _, Ext.refl _⟩
  case round =>
    obtain ⟨k, hk, rfl, rfl, hn0, hn1, hx⟩ := hrel
    by_cases hlt : k < d.length
    · obtain ⟨b, o, n, rfl, hnk, c0⟩ := HD.out k hlt
      obtain ⟨b', o', t, rfl, htk, _, _, _, c1⟩ := HT.out k (by omega)
      have q0 := hx.cell c0
      have q1 := hx.cell c1
      have hsu := restTo_succ htk.out hnk.out
      have hmb := HM.out t (List.mem_of_getElem? htk.out)
      have hm0 := hmb.1
      have hm1 := hmb.2
      have x2 : decide ((k : Int) < (d.length : Int)) = true := by simpa using hlt
      have i1 : (0 : Int) ≤ (k : Int) := by omega
      have i2 : (k : Int) < (d.length : Int) := by omega
      have i3 : (k : Int) < (ts.length : Int) := by omega
      clear c0 c1 hmb
      by_cases hneg : n < 0
      · have x3 : decide (n < 0) = true := by simpa using hneg
        rw [if_pos hneg] at hsu
        have HSU := Lib.hid hsu
        generalize restTo ts d k = s at *
        clear hsu
        go_wp2
        go_roundw
        case rel => exact ⟨k + 1, by omega, by go_num, by rw [HSU.out], by rw [HSU.out]; omega, by rw [HSU.out]; omega, hx⟩
        case measure => simp [intOf]; omega
      · have x3 : decide (n < 0) = false := by simpa using hneg
        rw [if_neg hneg, Int.add_zero] at hsu
        have HSU := Lib.hid hsu
        generalize restTo ts d k = s at *
        clear hsu
        go_wp2
        go_roundw
        case rel => exact ⟨k + 1, by omega, by go_num, by rw [HSU.out], by rw [HSU.out]; omega, by rw [HSU.out]; omega, hx⟩
        case measure => simp [intOf]; omega
    · have x2 : decide ((k : Int) < (d.length : Int)) = false := by simp; omega
      have hke : k = d.length := by omega
      subst hke
      go_wp2
      go_ret
      exact ⟨rfl, hx⟩
end Go.Proofs.YtabkfohbdfpdpaaGreatDoor
