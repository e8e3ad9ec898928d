/- The iterator over what a house can have brought: the walk. -/
import Derived.Test.YtjbeiclfggjbmaaGreatDoorWays
import Derived.LoopIn
import Derived.OwnWalkIn
namespace Go.Proofs.YtjbeiclfggjbmaaGreatDoor
open Go.RowKit

/-- An operation that is passed over, in the wide fence, be it a call or not. -/
theorem wpListIn_pass {F : Fence} {n : Nat} {P : Program} {ops : Array Oper} {Q : Exit → Act → World → Prop} {a : Act} {w : World} {rest : List Oper} {o : Oper} (hF : ∀ f, F.fn f) (hw : Region.wanted o (yielded ops a.tmps) = false) (h : wpListIn F n P ops Q rest (a.put o.dst undef) w) : wpListIn F n P ops Q (o :: rest) a w := by
  simp only [wpListIn, hw]
  exact ⟨fun f _ => hF f, h⟩

set_option maxRecDepth 100000 in
set_option maxHeartbeats 8000000 in
theorem ways_iter (r : Round) (hv : Value) (button : Int) (h : House) (free : Bool) (hb wb fb : Nat) (W : World) (M : Nat → Prop) (hr : RoundB r) (hw : r.lo ≤ button) (hw' : button ≤ r.hi) (hbad : badHouse h = false)
    (hvs : ∃ a n c, hv = .slice a n c) (hE : WayEnv r hv button h free hb wb fb W) (m1 : ¬ M hb) (m2 : ¬ M wb) (m3 : ¬ M fb) :
    Iter Tryz.prog 187 #[.pointer (some ⟨hb, 0, none⟩), .pointer (some ⟨wb, 0, none⟩), .pointer (some ⟨fb, 0, none⟩)] (fun _ x v => v = broughtV x.1 x.2) (waysOf r button h free) M W := by
  intro l J Jx hJ hJx hY h0
  obtain ⟨va, vn, vc, rfl⟩ := hvs
  have hbd := badHouse_iff.1 hbad
  have hp1 := hr.p1
  have hp2 := hr.p2
  have HR := Lib.hid hr
  have HBAD := Lib.hid hbad
  have HJ := Lib.hid hJ
  have HY := Lib.hid hY
  have HW := Lib.hid (And.intro hw hw')
  clear hJ hY hr hbad hw hw'
  have e1 := hE.h1
  have hcb : h.cards + 1 ≤ 61 := by omega
  have hca : 1 ≤ h.cards + 1 := by omega
  refine callsIn_of_wp Tryz.func187 rfl trivial ?_ rfl
  simp only [Tryz.ntmps187, List.size_toArray, List.length_cons, List.length_nil, Nat.reduceAdd, Nat.reduceSub, Array.replicate_succ, Array.replicate_zero, List.push_toArray, List.append_toArray, List.nil_append, List.cons_append]
  gi_wp2
  gi_loopw [11] (fun i wr => ∃ f : Nat, f ≤ (h.cards + 1).toNat ∧ i = .int .i64 f ∧ J (wayCnt r button h free f) wr ∧ WayEnv r (.slice va vn vc) button h free hb wb fb wr ∧ W.heap.size ≤ wr.heap.size) (fun i _ => (h.cards + 1).toNat - (intOf i).toNat)
  case atStart => exact ⟨0, Nat.zero_le _, rfl, h0, hE, Nat.le_refl _⟩
  case round =>
    obtain ⟨f, hf, rfl, hJw, hEw, hsz⟩ := hrel
    have d0 := hEw.w0
    by_cases hlt : f < (h.cards + 1).toNat
    · have x1 : decide ((f : Int) < h.cards + 1) = true := by simp; omega
      gi_wp2
      gi_loopw [17] (fun i wr' => ∃ j : Nat, j ≤ r.per.toNat ∧ i = .int .i64 j ∧ J (wayCnt r button h free f + rowCnt r button h free f j) wr' ∧ WayEnv r (.slice va vn vc) button h free hb wb fb wr' ∧ W.heap.size ≤ wr'.heap.size) (fun i _ => r.per.toNat - (intOf i).toNat)
      case atStart => exact ⟨0, Nat.zero_le _, rfl, by simpa [rowCnt, rowOf] using hJw, hEw, hsz⟩
      case round =>
        clear hJw hEw hsz d0
        obtain ⟨j, hj, rfl, hJw, hEw, hsz⟩ := hrel
        by_cases hjl : j < r.per.toNat
        · have x2 : decide ((j : Int) < r.per) = true := by simp; omega
          have hxa : Ext wr (wr.alloc (.cells #[.int .i64 f, .int .i64 j] 161)) := (Ext.refl _).alloc _
          have hEa := hEw.ext hxa
          have HCAN := Lib.hid (fun A => can_any r (.slice va vn vc) button h f j A HR.out HW.out.1 HW.out.2 HBAD.out (by omega) (by omega))
          have HCNT := Lib.hid (fun A => counts_any h f j A HBAD.out (by omega) (by omega) (by omega) (by omega))
          have HYY := Lib.hid (fun A (hx : Ext wr A) (hok : okB r button h free (f, j) = true) => HY.out _ (f, j) (.agg #[.int .i64 f, .int .i64 j]) A ((HJ.out _).out' hJw hx) (ways_at (by omega) (by omega) hok) rfl (by have := hx.size; omega))
          have HSU := Lib.hid (rowCnt_succ r button h free f j)
          obtain ⟨a0, a1, a2, a3, a4, a5, a6, a7, a8, i0, i1, i2, i3, i4, i5, af⟩ := hEa
          have HJW := Lib.hid hJw
          have HEW := Lib.hid hEw
          have HM := Lib.hid (And.intro m1 (And.intro m2 m3))
          clear hJw hEw hE m1 m2 m3
          cases hcn : canB r button h f j with
          | false =>
            rw [hcn] at HCAN
            have hok : okB r button h free (f, j) = false := by simp [okB, hcn]
            rw [hok] at HSU
            have hend : ∀ A, Ext wr A → J (wayCnt r button h free f + rowCnt r button h free f (j + 1)) A ∧ WayEnv r (.slice va vn vc) button h free hb wb fb A ∧ W.heap.size ≤ A.heap.size := fun A hx =>
              ⟨by rw [HSU.out]; exact (HJ.out _).out' HJW.out hx, HEW.out.ext hx, by have := hx.size; omega⟩
            have HEND := Lib.hid hend
            clear hend hcn hok
            gi_wp2_with (first | (refine wpListIn_pass (fun _ => trivial) rfl ?_) | (gi_at_call 134; refine (callsIn_wide.2 (HCAN.out _)).mono ?_; rintro e w1 ⟨rfl, hx1⟩))
            have he := HEND.out w1 (hxa.trans hx1)
            exact ⟨⟨j + 1, by omega, by go_num, he.1, he.2.1, he.2.2⟩, by simp [intOf]; omega⟩
          | true =>
            rw [hcn] at HCAN
            have hyend : ∀ A B (b : Bool), Ext wr A → okB r button h free (f, j) = true → YRes M (J (wayCnt r button h free f + rowCnt r button h free f j + 1)) Jx A (.returned (.bool b)) B →
                (b = true → J (wayCnt r button h free f + rowCnt r button h free f (j + 1)) B ∧ WayEnv r (.slice va vn vc) button h free hb wb fb B ∧ W.heap.size ≤ B.heap.size) ∧ (b = false → Jx B) := fun A B b hx hok ⟨b', he, ht, h1, h2⟩ => by
              cases he
              refine ⟨fun hb => ⟨?_, (HEW.out.ext hx).touch ht HM.out.1 HM.out.2.1 HM.out.2.2, by have := hx.size; have := ht.size; omega⟩, h2⟩
              rw [HSU.out, hok, ← Nat.add_assoc]; exact h1 hb
            have HYE := Lib.hid hyend
            clear hyend
            cases hfr : free with
            | true =>
              have hok : okB r button h free (f, j) = true := by simp [okB, hcn, hfr]
              have HOK := Lib.hid hok
              subst hfr
              clear hcn hok
              gi_wp2_with (first
                | (refine wpListIn_pass (fun _ => trivial) rfl ?_)
                | (gi_at_call 134; refine (callsIn_wide.2 (HCAN.out _)).mono ?_; rintro e w1 ⟨rfl, hx1⟩; have hxw := hxa.trans hx1; have hf1 := (HEW.out.ext hxw).f; have b0 := hx1.cell (a := ⟨wr.heap.size, 0, none⟩) (v := .int .i64 f) (by go_simp); have b1 := hx1.cell (a := ⟨wr.heap.size, 1, none⟩) (v := .int .i64 j) (by go_simp); obtain ⟨fn, tmps, assign, body, hy, hRd⟩ := HYY.out w1 hxw HOK.out; have hxy := hxw)
                | (refine RoundIn.mono hRd ?_; rintro e w4 ⟨b, rfl, hpost⟩))
              all_goals (have hpp := HYE.out _ w4 b hxy HOK.out ⟨b, rfl, hpost⟩)
              · refine bodyPost_ret (results_none rfl _ _ _) rfl ?_
                exact ⟨⟨_, rfl⟩, .inr (hpp.2 (by first | assumption | (cases b <;> simp_all)))⟩
              · have he := hpp.1 (by first | assumption | (cases b <;> simp_all))
                exact ⟨⟨j + 1, by omega, by go_num, he.1, he.2.1, he.2.2⟩, by simp [intOf]; omega⟩
            | false =>
              subst hfr
              cases hcs : countsB h f j with
              | false =>
                rw [hcs] at HCNT
                have hok : okB r button h false (f, j) = false := by simp [okB, hcs]
                rw [hok] at HSU
                have hend : ∀ A, Ext wr A → J (wayCnt r button h false f + rowCnt r button h false f (j + 1)) A ∧ WayEnv r (.slice va vn vc) button h false hb wb fb A ∧ W.heap.size ≤ A.heap.size := fun A hx =>
                  ⟨by rw [HSU.out]; exact (HJ.out _).out' HJW.out hx, HEW.out.ext hx, by have := hx.size; omega⟩
                have HEND := Lib.hid hend
                clear hend hcn hok hcs
                gi_wp2_with (first
                  | (refine wpListIn_pass (fun _ => trivial) rfl ?_)
                  | (gi_at_call 134; refine (callsIn_wide.2 (HCAN.out _)).mono ?_; rintro e w1 ⟨rfl, hx1⟩; have hxw := hxa.trans hx1; obtain ⟨_, _, _, _, _, _, _, _, _, p0, p1, p2, p3, p4, p5, pf⟩ := HEW.out.ext hxw; have b0 := hx1.cell (a := ⟨wr.heap.size, 0, none⟩) (v := .int .i64 f) (by go_simp); have b1 := hx1.cell (a := ⟨wr.heap.size, 1, none⟩) (v := .int .i64 j) (by go_simp))
                  | (gi_at_call 135; refine (callsIn_wide.2 (HCNT.out _)).mono ?_; rintro e w2 ⟨rfl, hx2⟩))
                have he := HEND.out w2 (hxw.trans hx2)
                exact ⟨⟨j + 1, by omega, by go_num, he.1, he.2.1, he.2.2⟩, by simp [intOf]; omega⟩
              | true =>
                rw [hcs] at HCNT
                have HOK := Lib.hid (show okB r button h false (f, j) = true by simp [okB, hcn, hcs])
                clear hcn hcs
                gi_wp2_with (first
                  | (refine wpListIn_pass (fun _ => trivial) rfl ?_)
                  | (gi_at_call 134; refine (callsIn_wide.2 (HCAN.out _)).mono ?_; rintro e w1 ⟨rfl, hx1⟩; have hxw := hxa.trans hx1; obtain ⟨_, _, _, _, _, _, _, _, _, p0, p1, p2, p3, p4, p5, pf⟩ := HEW.out.ext hxw; have b0 := hx1.cell (a := ⟨wr.heap.size, 0, none⟩) (v := .int .i64 f) (by go_simp); have b1 := hx1.cell (a := ⟨wr.heap.size, 1, none⟩) (v := .int .i64 j) (by go_simp))
                  | (gi_at_call 135; refine (callsIn_wide.2 (HCNT.out _)).mono ?_; rintro e w2 ⟨rfl, hx2⟩; have hxy := hxw.trans hx2; have c0 := hx2.cell b0; have c1 := hx2.cell b1; obtain ⟨fn, tmps, assign, body, hy, hRd⟩ := HYY.out w2 hxy HOK.out)
                  | (refine RoundIn.mono hRd ?_; rintro e w4 ⟨b, rfl, hpost⟩))
                all_goals (have hpp := HYE.out _ w4 b hxy HOK.out ⟨b, rfl, hpost⟩)
                · refine bodyPost_ret (results_none rfl _ _ _) rfl ?_
                  exact ⟨⟨_, rfl⟩, .inr (hpp.2 (by first | assumption | (cases b <;> simp_all)))⟩
                · have he := hpp.1 (by first | assumption | (cases b <;> simp_all))
                  exact ⟨⟨j + 1, by omega, by go_num, he.1, he.2.1, he.2.2⟩, by simp [intOf]; omega⟩
        · have x2 : decide ((j : Int) < r.per) = false := by simp; omega
          have hje : j = r.per.toNat := by omega
          have HN := Lib.hid (show J (wayCnt r button h free (f + 1)) wr by rw [wayCnt_succ, ← hje]; exact hJw)
          clear hje hJw
          gi_wp2
          exact ⟨⟨f + 1, by omega, by go_num, HN.out, hEw, hsz⟩, by simp [intOf]; omega⟩
    · have x1 : decide ((f : Int) < h.cards + 1) = false := by simp; omega
      have hfe : f = (h.cards + 1).toNat := by omega
      have hfin : J (waysOf r button h free).length wr := by
        have : (waysOf r button h free).length = wayCnt r button h free f := by rw [hfe]; rfl
        rw [this]; exact hJw
      clear hfe
      gi_wp2
      go_end0
      exact ⟨⟨_, rfl⟩, .inl hfin⟩
end Go.Proofs.YtjbeiclfggjbmaaGreatDoor
