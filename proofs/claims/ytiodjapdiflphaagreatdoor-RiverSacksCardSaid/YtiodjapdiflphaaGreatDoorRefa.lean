/- The reference's functions on books and shells: in, River, Year, Size, Shell, Book; the law's slim. -/
import Derived.Test.YtiodjapdiflphaaGreatDoorLook
import Derived.Test.YtiodjapdiflphaaGreatDoorLen
import Derived.RangeFuncRecord
namespace Go.Proofs.YtiodjapdiflphaaGreatDoor
open Go.RowKit
theorem rin_any (x lo hi : Int) (w : World) :
  Calls Tryz.prog 40 #[.int .i64 x, .int .i64 lo, .int .i64 hi] w fun e w' => e = .returned (.bool (inB x lo hi)) ∧ w = w' := by
 go_enter Tryz.func40, Tryz.ntmps40
 go_wp2
 all_goals go_ret
 all_goals simp [inB, *]
 omega
theorem BookAt.slice {w : World} {v : Value} {b : Book} (h : BookAt w v b) : ∃ a c, v = .agg #[.int .i64 b.years, .slice a b.rivers.length c] ∧ RiversAt w (.slice a b.rivers.length c) b.rivers := by
 obtain ⟨rv, rfl, hr⟩ := h
 obtain ⟨a, c, rfl, _⟩ := hr.open
 exact ⟨a, c, rfl, hr⟩
/-! ### Shell -/
theorem shellB_bad {s : Shell} (h : s.rings.any (fun n => !inB n 0 60) = true) : isShellB s = false := by unfold isShellB; rw [h]; simp
set_option maxRecDepth 100000 in
set_option maxHeartbeats 2000000 in
theorem rshell_any (v : Value) (s : Shell) (w : World) (hs : ShellAt w v s) :
  Calls Tryz.prog 41 #[v] w fun e w' => e = .returned (.bool (isShellB s)) ∧ Ext w w' := by
 obtain ⟨rv, rfl, hr⟩ := hs
 obtain ⟨a, c, rfl, h1, h2, h3⟩ := hr.open
 have HH := Lib.hid h3
 have hx0 : Ext w (w.alloc (.cells #[.slice a s.rings.length c, .int .i64 s.off] 65)) := (Ext.refl w).alloc _
 have HS := Lib.hid (fun W (h : Ext (w.alloc (.cells #[.slice a s.rings.length c, .int .i64 s.off] 65)) W) => (⟨h.cell (by go_simp), h.cell (by go_simp)⟩ : W.cell? ⟨w.heap.size, 0, none⟩ = some (.slice a s.rings.length c) ∧ W.cell? ⟨w.heap.size, 1, none⟩ = some (.int .i64 s.off)))
 have HX0 := Lib.hid hx0
 clear h3 hr hx0
 go_enter Tryz.func41, Tryz.ntmps41
 go_wp2
 go_loopw [3] (fun i wr => ∃ k : Nat, k ≤ s.rings.length ∧ i = .int .i64 k ∧ Hid ((s.rings.take k).any (fun n => !inB n 0 60) = false) ∧ Ext (w.alloc (.cells #[.slice a s.rings.length c, .int .i64 s.off] 65)) wr) (fun i _ => s.rings.length - (intOf i).toNat)
 case atStart => exact ⟨0, Nat.zero_le _, rfl, by simp [Hid], Ext.refl _⟩
 case round =>
  obtain ⟨k, hk, rfl, hno, hx⟩ := hrel
  obtain ⟨z0, z1⟩ := HS.out _ hx
  by_cases hlt : k < s.rings.length
  ·obtain ⟨b, o, n, rfl, hxk, hc⟩ := HH.out k hlt
   have d0 := (HX0.out.trans hx).cell hc
   have x2 : decide ((k : Int) < (s.rings.length : Int)) = true := by simpa using hlt
   have i1 : (0 : Int) ≤ (k : Int) := by omega
   have i2 : (k : Int) < (s.rings.length : Int) := by omega
   clear hc
   cases hin : inB n 0 60 with
   | true =>
    have HI := Lib.hid (fun w1 => hin ▸ rin_any n 0 60 w1)
    have HN : Hid ((s.rings.take (k + 1)).any (fun n => !inB n 0 60) = false) := by
     unfold Hid; rw [any_take_succ _ hxk.out, hno.out, hin]; rfl
    clear hin
    go_wp2_with (go_at_call 40; refine (HI.out _).mono ?_; rintro e w' ⟨rfl, rfl⟩)
    go_roundw
    case rel => exact ⟨k + 1, by omega, by go_num, HN, hx⟩
    case measure => simp [intOf]; omega
   | false =>
    have HI := Lib.hid (fun w1 => hin ▸ rin_any n 0 60 w1)
    have HN : Hid (isShellB s = false) := shellB_bad (any_of_at (fun n => !inB n 0 60) hxk.out (by rw [hin]; rfl))
    clear hin
    go_wp2_with (go_at_call 40; refine (HI.out _).mono ?_; rintro e w' ⟨rfl, rfl⟩)
    go_ret
    exact ⟨by rw [HN.out] <;> rfl, HX0.out.trans hx⟩
  ·have hke : k = s.rings.length := by omega
   have x2 : decide ((k : Int) < (s.rings.length : Int)) = false := by simp; omega
   have HN : Hid (isShellB s = (inB s.rings.length 1 5 && inB s.off 0 3)) := by
    have h := hno.out
    rw [List.take_of_length_le (by omega)] at h
    unfold Hid isShellB; rw [h]; simp
   clear hke
   cases h1' : inB s.rings.length 1 5 with
   | true =>
    have HI := Lib.hid (fun w1 => h1' ▸ rin_any s.rings.length 1 5 w1)
    rw [h1', Bool.true_and] at HN
    clear h1'
    have tok : True := trivial
    go_wp2_with (first | (go_at_call 40; have _t := tok; refine (HI.out _).mono ?_; rintro e w' ⟨rfl, rfl⟩; clear tok _t) | (go_at_call 40; refine (rin_any _ _ _ _).mono ?_; rintro e w' ⟨rfl, rfl⟩))
    go_ret
    exact ⟨by rw [HN.out] <;> rfl, HX0.out.trans hx⟩
   | false =>
    have HI := Lib.hid (fun w1 => h1' ▸ rin_any s.rings.length 1 5 w1)
    rw [h1', Bool.false_and] at HN
    clear h1'
    go_wp2_with (go_at_call 40; refine (HI.out _).mono ?_; rintro e w' ⟨rfl, rfl⟩)
    go_ret
    exact ⟨by rw [HN.out] <;> rfl, HX0.out.trans hx⟩
/-! ### Book -/
theorem bookB_years {b : Book} (h : inB b.years 1 6 = false) : isBookB b = false := by unfold isBookB; rw [h]; rfl
theorem bookB_bad {b : Book} {k : Nat} {r : River} (hk : b.rivers[k]? = some r) (h : badRiver b.years r = true) : isBookB b = false := by
 unfold isBookB; rw [any_of_at (badRiver b.years) hk h]; simp
theorem badRiver_span {y : Int} {r : River} {j : Nat} {s : Int × Int} (hj : r.grow[j]? = some s) (h : badSpan s = true) : badRiver y r = true := by
 unfold badRiver; rw [any_of_at badSpan hj h]; simp
theorem badSpan_of {s : Int × Int} (h : s.1 < 0 ∨ s.2 < s.1 ∨ 40 < s.2 ∨ 4 < s.2 - s.1) : badSpan s = true := by
 cases hb : badSpan s with
 | true => rfl
 | false => have := badSpan_iff.1 hb; omega
theorem badSpan_not {s : Int × Int} (h1 : ¬ s.1 < 0) (h2 : ¬ s.2 < s.1) (h3 : ¬ 40 < s.2) (h4 : ¬ 4 < s.2 - s.1) : badSpan s = false := badSpan_iff.2 ⟨⟨by omega, by omega⟩, by omega, by omega⟩
set_option maxRecDepth 100000 in
set_option maxHeartbeats 8000000 in
theorem rbook_any (v : Value) (b : Book) (w : World) (hb : BookAt w v b) :
  Calls Tryz.prog 9 #[v] w fun e w' => e = .returned (.bool (isBookB b)) ∧ Ext w w' := by
 obtain ⟨a, c, rfl, hr⟩ := hb.slice
 obtain ⟨_, _, hv, h1, h2, h3⟩ := hr.open
 cases hv
 have HH := Lib.hid h3
 have HX0 := Lib.hid ((Ext.refl w).alloc (.cells #[.int .i64 b.years, .slice a b.rivers.length c] 24))
 have HS := Lib.hid (fun W (h : Ext (w.alloc (.cells #[.int .i64 b.years, .slice a b.rivers.length c] 24)) W) => (⟨h.cell (by go_simp), h.cell (by go_simp)⟩ : W.cell? ⟨w.heap.size, 0, none⟩ = some (.int .i64 b.years) ∧ W.cell? ⟨w.heap.size, 1, none⟩ = some (.slice a b.rivers.length c)))
 clear h3 hr hb
 cases hy : inB b.years 1 6 with
 | false =>
  have HI := Lib.hid (fun w1 => hy ▸ rin_any b.years 1 6 w1)
  have HN := Lib.hid (bookB_years hy)
  clear hy
  go_enter Tryz.func9, Tryz.ntmps9
  go_wp2_with (go_at_call 40; refine (HI.out _).mono ?_; rintro e w' ⟨rfl, rfl⟩)
  go_ret
  exact ⟨by rw [HN.out] <;> rfl, HX0.out⟩
 | true =>
  have HI := Lib.hid (fun w1 => hy ▸ rin_any b.years 1 6 w1)
  have HY := Lib.hid hy
  obtain ⟨y1, y2⟩ := inB_iff.1 hy
  obtain ⟨n, hn, n1, n2⟩ := shl_years b.years y1 y2
  obtain ⟨p1, p2⟩ := two_pow_years n n2
  have HNY := Lib.hid hn
  clear hy y1 y2
  rw [hn] at HS HX0 HI ⊢
  clear hn
  go_enter Tryz.func9, Tryz.ntmps9
  go_wp2_with (go_at_call 40; refine (HI.out _).mono ?_; rintro e w' ⟨rfl, rfl⟩)
  go_loopw [3] (fun i wr => ∃ k : Nat, k ≤ b.rivers.length ∧ i = .int .i64 k ∧ Hid ((b.rivers.take k).any (badRiver b.years) = false) ∧ Ext (w.alloc (.cells #[.int .i64 (n : Int), .slice a b.rivers.length c] 24)) wr) (fun i _ => b.rivers.length - (intOf i).toNat)
  case atStart => exact ⟨0, Nat.zero_le _, rfl, by simp [Hid], Ext.refl _⟩
  case round =>
   obtain ⟨k, hk, rfl, hno, hx⟩ := hrel
   obtain ⟨z0, z1⟩ := HS.out _ hx
   by_cases hlt : k < b.rivers.length
   ·obtain ⟨bb, bo, gv, R, rfl, hR, c0, c1, c2, hg⟩ := HH.out k hlt
    have d0 := (HX0.out.trans hx).cell c0
    have d1 := (HX0.out.trans hx).cell c1
    have d2 := (HX0.out.trans hx).cell c2
    obtain ⟨ga, gc, rfl, g1, g2, g3⟩ := hg.open
    have HG := Lib.hid g3
    have x2 : decide ((k : Int) < (b.rivers.length : Int)) = true := by simpa using hlt
    have i1 : (0 : Int) ≤ (k : Int) := by omega
    have i2 : (k : Int) < (b.rivers.length : Int) := by omega
    obtain ⟨wo, rfl⟩ : ∃ wo : World, wo = wr := ⟨_, rfl⟩
    have hxa := hx.alloc (.cells #[.slice ga R.grow.length gc, .int .i64 R.vary, .int .i64 R.closed] 62)
    have HSA := Lib.hid (fun W (h : Ext (wo.alloc (.cells #[.slice ga R.grow.length gc, .int .i64 R.vary, .int .i64 R.closed] 62)) W) => (⟨h.cell (by go_simp), h.cell (by go_simp), h.cell (by go_simp), (HS.out _ (hxa.trans h)).1, (HS.out _ (hxa.trans h)).2⟩ : W.cell? ⟨wo.heap.size, 0, none⟩ = some (.slice ga R.grow.length gc) ∧ W.cell? ⟨wo.heap.size, 1, none⟩ = some (.int .i64 R.vary) ∧ W.cell? ⟨wo.heap.size, 2, none⟩ = some (.int .i64 R.closed) ∧ W.cell? ⟨w.heap.size, 0, none⟩ = some (.int .i64 (n : Int)) ∧ W.cell? ⟨w.heap.size, 1, none⟩ = some (.slice (some ⟨bb, bo, none⟩) b.rivers.length c)))
    have HXA := Lib.hid hxa
    have HXW := Lib.hid (HX0.out.trans hxa)
    clear c0 c1 c2 hg g3 hxa hx
    go_wp2
    go_loopw [5] (fun i wr => ∃ j : Nat, j ≤ R.grow.length ∧ i = .int .i64 j ∧ Hid ((R.grow.take j).any badSpan = false) ∧ Ext (wo.alloc (.cells #[.slice ga R.grow.length gc, .int .i64 R.vary, .int .i64 R.closed] 62)) wr) (fun i _ => R.grow.length - (intOf i).toNat)
    case atStart => exact ⟨0, Nat.zero_le _, rfl, by simp [Hid], Ext.refl _⟩
    case round =>
     obtain ⟨j, hj, rfl, hnj, hx2⟩ := hrel
     obtain ⟨s0, s1, s2, s3, s4⟩ := HSA.out _ hx2
     clear z0 z1 d0 d1 d2
     by_cases hjt : j < R.grow.length
     ·obtain ⟨qb, qo, x, rfl, hxj, e0, e1⟩ := HG.out j hjt
      have f0 := (HXW.out.trans hx2).cell e0
      have f1 := (HXW.out.trans hx2).cell e1
      have x3 : decide ((j : Int) < (R.grow.length : Int)) = true := by simpa using hjt
      have i3 : (0 : Int) ≤ (j : Int) := by omega
      have i4 : (j : Int) < (R.grow.length : Int) := by omega
      obtain ⟨xl, xh⟩ := x
      simp only at f0 f1
      clear e0 e1
      by_cases q1 : xl < 0
      ·have t0 : decide (xl < 0) = true := by simpa using q1
       have HN := Lib.hid (bookB_bad hR.out (badRiver_span hxj.out (badSpan_of (by simp only []; omega))))
       have HXX := Lib.hid (HXW.out.trans (hx2.alloc (.cells #[.int .i64 xl, .int .i64 xh] 52)))
       go_wp2_with fail
       go_ret
       exact ⟨by rw [HN.out] <;> rfl, HXX.out⟩
      ·have t0 : decide (xl < 0) = false := by simpa using q1
       by_cases q2 : xh < xl
       ·have t1 : decide (xh < xl) = true := by simpa using q2
        have HN := Lib.hid (bookB_bad hR.out (badRiver_span hxj.out (badSpan_of (by simp only []; omega))))
        have HXX := Lib.hid (HXW.out.trans (hx2.alloc (.cells #[.int .i64 xl, .int .i64 xh] 52)))
        go_wp2_with fail
        go_ret
        exact ⟨by rw [HN.out] <;> rfl, HXX.out⟩
       ·have t1 : decide (xh < xl) = false := by simpa using q2
        by_cases q3 : 40 < xh
        ·have t2 : decide (40 < xh) = true := by simpa using q3
         have HN := Lib.hid (bookB_bad hR.out (badRiver_span hxj.out (badSpan_of (by simp only []; omega))))
         have HXX := Lib.hid (HXW.out.trans (hx2.alloc (.cells #[.int .i64 xl, .int .i64 xh] 52)))
         go_wp2_with fail
         go_ret
         exact ⟨by rw [HN.out] <;> rfl, HXX.out⟩
        ·have t2 : decide (40 < xh) = false := by simpa using q3
         by_cases q4 : 4 < xh - xl
         ·have t3 : decide (4 < xh - xl) = true := by simpa using q4
          have HN := Lib.hid (bookB_bad hR.out (badRiver_span hxj.out (badSpan_of (by simp only []; omega))))
          have HXX := Lib.hid (HXW.out.trans (hx2.alloc (.cells #[.int .i64 xl, .int .i64 xh] 52)))
          go_wp2_with fail
          go_ret
          exact ⟨by rw [HN.out] <;> rfl, HXX.out⟩
         ·have t3 : decide (4 < xh - xl) = false := by simpa using q4
          have HN : Hid ((R.grow.take (j + 1)).any badSpan = false) := by
           unfold Hid; rw [any_take_succ _ hxj.out, hnj.out, badSpan_not q1 q2 q3 q4]; rfl
          have HXX := Lib.hid (hx2.alloc (.cells #[.int .i64 xl, .int .i64 xh] 52))
          go_wp2_with fail
          exact ⟨⟨j + 1, by omega, by go_num, HN, HXX.out⟩, by simp [intOf]; omega⟩
     ·have x3 : decide ((j : Int) < (R.grow.length : Int)) = false := by simp; omega
      have hall : R.grow.any badSpan = false := by
       have h := hnj.out
       rwa [List.take_of_length_le (by omega)] at h
      have hbr : badRiver b.years R = (!decide ((R.grow.length : Int) = n) || !inB R.vary 0 3 || !inB R.closed 0 (2 ^ n - 1)) := by
       unfold badRiver; rw [hall, HNY.out, Int.toNat_natCast]; simp
      have HXX := Lib.hid (HXA.out.trans hx2)
      clear hall hnj
      by_cases hl : R.grow.length = n
      ·have t1 : ((R.grow.length : Int) != (n : Int)) = false := by rw [bne_eq_false_iff_eq]; omega
       rw [decide_eq_true (by omega : (R.grow.length : Int) = n)] at hbr
       cases hv : inB R.vary 0 3 with
       | false =>
        have HIV := Lib.hid (fun w1 => hv ▸ rin_any R.vary 0 3 w1)
        have HN := Lib.hid (bookB_bad hR.out (by rw [hbr, hv]; rfl))
        clear hbr hv hl
        go_wp2_with (go_at_call 40; refine (HIV.out _).mono ?_; rintro e w' ⟨rfl, rfl⟩)
        go_ret
        exact ⟨by rw [HN.out] <;> rfl, HX0.out.trans HXX.out⟩
       | true =>
        have HIV := Lib.hid (fun w1 => hv ▸ rin_any R.vary 0 3 w1)
        have tok : True := trivial
        cases hc : inB R.closed 0 (2 ^ n - 1) with
        | false =>
         have HIC := Lib.hid (fun w1 => hc ▸ rin_any R.closed 0 (2 ^ n - 1) w1)
         have HN := Lib.hid (bookB_bad hR.out (by rw [hbr, hc]; simp))
         clear hbr hv hc hl
         go_wp2_with (first | (go_at_call 40; have _t := tok; refine (HIV.out _).mono ?_; rintro e w' ⟨rfl, rfl⟩; clear tok _t) | (go_at_call 40; refine (HIC.out _).mono ?_; rintro e w' ⟨rfl, rfl⟩))
         go_ret
         exact ⟨by rw [HN.out] <;> rfl, HX0.out.trans HXX.out⟩
        | true =>
         have HIC := Lib.hid (fun w1 => hc ▸ rin_any R.closed 0 (2 ^ n - 1) w1)
         have HN : Hid ((b.rivers.take (k + 1)).any (badRiver b.years) = false) := by
          unfold Hid; rw [any_take_succ _ hR.out, hno.out, hbr, hv, hc]; rfl
         clear hbr hv hc hl
         go_wp2_with (first | (go_at_call 40; have _t := tok; refine (HIV.out _).mono ?_; rintro e w' ⟨rfl, rfl⟩; clear tok _t) | (go_at_call 40; refine (HIC.out _).mono ?_; rintro e w' ⟨rfl, rfl⟩))
         exact ⟨⟨k + 1, by omega, by go_num, HN, HXX.out⟩, by simp [intOf]; omega⟩
      ·have t1 : ((R.grow.length : Int) != (n : Int)) = true := by rw [bne_iff_ne]; omega
       have HN := Lib.hid (bookB_bad hR.out (by rw [hbr, decide_eq_false (by omega)]; rfl))
       clear hbr hl
       go_wp2_with fail
       go_ret
       exact ⟨by rw [HN.out] <;> rfl, HX0.out.trans HXX.out⟩
   ·have x2 : decide ((k : Int) < (b.rivers.length : Int)) = false := by simp; omega
    have HN : Hid (isBookB b = inB b.rivers.length 1 3) := by
     have h := hno.out
     rw [List.take_of_length_le (by omega)] at h
     unfold Hid isBookB; rw [h, HY.out]; simp
    go_wp2_with (go_at_call 40; refine (rin_any _ _ _ _).mono ?_; rintro e w' ⟨rfl, rfl⟩)
    go_ret
    exact ⟨by rw [HN.out] <;> rfl, HX0.out.trans hx⟩
/-! ### slim -/
def slimB (b : Book) : Bool := !(b.rivers.take 6).any (fun r => decide (8 < r.grow.length)) && decide (b.rivers.length ≤ 5)
theorem slimB_book {b : Book} (h : isBookB b = true) : slimB b = true := by
 have hB := bookB_of h
 unfold slimB
 rw [Bool.and_eq_true]
 refine ⟨?_, by simpa using (by have := hB.n2; omega : b.rivers.length ≤ 5)⟩
 rw [Bool.not_eq_true', List.any_eq_false]
 intro r hr
 have := hB.len r (List.mem_of_mem_take hr)
 have := hB.y2
 simp; omega
set_option maxRecDepth 100000 in
set_option maxHeartbeats 2000000 in
theorem slim_any (v : Value) (b : Book) (w : World) (hb : BookAt w v b) :
  Calls Tryz.prog 5 #[v] w fun e w' => e = .returned (.bool (slimB b)) ∧ Ext w w' := by
 obtain ⟨a, c, rfl, hr⟩ := hb.slice
 obtain ⟨_, _, hv, h1, h2, h3⟩ := hr.open
 cases hv
 have HH := Lib.hid h3
 have HX0 := Lib.hid ((Ext.refl w).alloc (.cells #[.int .i64 b.years, .slice a b.rivers.length c] 24))
 clear h3 hr hb
 go_enter Tryz.func5, Tryz.ntmps5
 go_wp2
 go_loopw [3] (fun i wr => ∃ k : Nat, k ≤ b.rivers.length ∧ k ≤ 6 ∧ i = .int .i64 k ∧ Hid ((b.rivers.take k).any (fun r => decide (8 < r.grow.length)) = false) ∧ wr = w.alloc (.cells #[.int .i64 b.years, .slice a b.rivers.length c] 24)) (fun i _ => b.rivers.length - (intOf i).toNat)
 case atStart => exact ⟨0, Nat.zero_le _, by omega, rfl, by simp [Hid], rfl⟩
 case round =>
  obtain ⟨k, hk, hk6, rfl, hno, rfl⟩ := hrel
  by_cases hlt : k < b.rivers.length
  ·have x2 : decide ((k : Int) < (b.rivers.length : Int)) = true := by simpa using hlt
   by_cases h6 : k < 6
   ·have x3 : decide ((k : Int) < 6) = true := by simp; omega
    obtain ⟨bb, bo, gv, R, rfl, hR, c0, c1, c2, hg⟩ := HH.out k hlt
    obtain ⟨ga, gc, rfl, g1, g2, _⟩ := hg.open
    have d0 := HX0.out.cell c0
    have i1 : (0 : Int) ≤ (k : Int) := by omega
    have i2 : (k : Int) < (b.rivers.length : Int) := by omega
    clear c0 c1 c2 hg
    by_cases h8 : 8 < R.grow.length
    ·have x4 : decide ((8 : Int) < (R.grow.length : Int)) = true := by simp; omega
     have HN : Hid (slimB b = false) := by
      have : (b.rivers.take 6).any (fun r => decide (8 < r.grow.length)) = true := any_of_at (fun (r : River) => decide (8 < r.grow.length)) (by rw [List.getElem?_take, if_pos h6]; exact hR.out) (by simpa using h8)
      unfold Hid slimB; rw [this]; rfl
     go_wp2_with fail
     go_ret
     exact ⟨by rw [HN.out] <;> rfl, HX0.out⟩
    ·have x4 : decide ((8 : Int) < (R.grow.length : Int)) = false := by simp; omega
     have HN : Hid ((b.rivers.take (k + 1)).any (fun r => decide (8 < r.grow.length)) = false) := by
      unfold Hid; rw [any_take_succ _ hR.out, hno.out, decide_eq_false h8]; rfl
     go_wp2_with fail
     go_roundw
     case rel => exact ⟨k + 1, by omega, by omega, by go_num, HN, by trivial⟩
     case measure => simp [intOf]; omega
   ·have x3 : decide ((k : Int) < 6) = false := by simp; omega
    have x4 : decide ((b.rivers.length : Int) ≤ 5) = false := by simp; omega
    have HN : Hid (slimB b = false) := by unfold Hid slimB; rw [decide_eq_false (by omega : ¬ b.rivers.length ≤ 5)]; simp
    go_wp2_with fail
    go_ret
    exact ⟨by rw [HN.out] <;> rfl, HX0.out⟩
  ·have x2 : decide ((k : Int) < (b.rivers.length : Int)) = false := by simp; omega
   have HN : Hid (slimB b = decide ((b.rivers.length : Int) ≤ 5)) := by
    have h := hno.out
    rw [List.take_of_length_le (by omega)] at h
    unfold Hid slimB
    rw [List.take_of_length_le (by omega), h]
    simp; omega
   go_wp2_with fail
   go_ret
   exact ⟨by rw [HN.out] <;> rfl, HX0.out⟩
end Go.Proofs.YtiodjapdiflphaaGreatDoor
