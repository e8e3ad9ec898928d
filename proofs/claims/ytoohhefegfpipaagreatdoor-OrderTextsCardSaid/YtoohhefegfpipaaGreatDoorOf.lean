/- Fits. -/
import Derived.Test.YtoohhefegfpipaaGreatDoorOc
namespace Go.Proofs.YtoohhefegfpipaaGreatDoor
open Go.RowKit
theorem check_any (v : Value) (b : Book) (w : World) (hb : BookAt w v b) :
  Calls Tryz.prog 18 #[v] w fun e w' => e = .returned (.int .i64 (if isBookB b then 0 else 2)) ∧ Ext w w' := by
 have HI := Lib.hid (fun W (h : Ext w W) => isBook_any v b W (hb.ext h))
 obtain ⟨ga, gc, ea, ec, rfl, hgl, hel⟩ := hb.open
 clear hb
 cases h : isBookB b with
 | false =>
  rw [h] at HI
  go_enter Tryz.func18, Tryz.ntmps18
  go_wp2_with (go_at_call 62; refine (HI.out _ ((Ext.refl w).alloc _)).mono ?_; rintro e w1 ⟨rfl, hx1⟩)
  go_ret
  exact ⟨rfl, ((Ext.refl w).alloc _).trans hx1⟩
 | true =>
  rw [h] at HI
  go_enter Tryz.func18, Tryz.ntmps18
  go_wp2_with (go_at_call 62; refine (HI.out _ ((Ext.refl w).alloc _)).mono ?_; rintro e w1 ⟨rfl, hx1⟩)
  go_ret
  exact ⟨rfl, ((Ext.refl w).alloc _).trans hx1⟩
theorem isMeans11_any (n : Int) (k : Nat) (ga ea : Option Addr) (gc en ec : Nat) (b : Book) (w : World) (hg : b.goods.length ≤ 9223372036854775807) (hb : BoxAt w k (.slice ga b.goods.length gc) b (.slice ea en ec)) :
  Calls Tryz.prog 116 #[.int .i64 n, .pointer (some ⟨k, 0, none⟩)] w fun e w' => e = .returned (.bool (!isNumberB b n)) ∧ Ext w w' := by
 obtain ⟨b0, b1, b2, b3⟩ := hb
 have HN := Lib.hid (fun W1 => isNumber_any ga ea gc en ec b n W1 hg)
 clear hg
 go_enter Tryz.func116, Tryz.ntmps116
 go_wp2_with (go_at_call 67; refine (HN.out _).mono ?_; rintro e w1 ⟨rfl, hx1⟩)
 go_ret
 exact ⟨rfl, hx1⟩
theorem enters_isMeans11 : ∀ args w, (callFunc 116 args).run Tryz.prog w = .ok (.enter 116 args) w := enters_of Tryz.func116 (by kernel_rfl) rfl
theorem contains_isMeans11 (v : Value) (l : List Int) (k : Nat) (ga ea : Option Addr) (gc en ec : Nat) (b : Book) (w : World) (hv : IntsAt w v l) (hg : b.goods.length ≤ 9223372036854775807) (hb : BoxAt w k (.slice ga b.goods.length gc) b (.slice ea en ec)) :
  Calls Tryz.prog 115 #[v, .func (.func 116) #[] #[.pointer (some ⟨k, 0, none⟩)]] w fun e w' => e = .returned (.bool (l.any fun n => !isNumberB b n)) ∧ Ext w w' :=
 containsFuncI (f := fun x : Int => [Value.int .i64 x]) (fun x => .int .i64 x) (fun _ => rfl) v _ _ (fun n => !isNumberB b n) l w hv.row (fun x _ w1 h1 => isMeans11_any x k ga ea gc en ec b w1 hg (hb.ext h1)) enters_isMeans11
theorem isMeans1_any (v : Value) (l : List Int) (k : Nat) (ga ea : Option Addr) (gc en ec : Nat) (b : Book) (w : World) (hv : IntsAt w v l) (hg : b.goods.length ≤ 9223372036854775807) (hb : BoxAt w k (.slice ga b.goods.length gc) b (.slice ea en ec)) :
  Calls Tryz.prog 114 #[v, .pointer (some ⟨k, 0, none⟩)] w fun e w' => e = .returned (.bool (badRow b l)) ∧ Ext w w' := by
 obtain ⟨la, lc, rfl, l1, l2, _⟩ := hv.open
 have HC := Lib.hid (contains_isMeans11 (.slice la l.length lc) l k ga ea gc en ec b w hv hg hb)
 obtain ⟨b0, b1, b2, b3⟩ := hb
 by_cases hl : l.length = b.goods.length
 ·have t1 : ((l.length : Int) != (b.goods.length : Int)) = false := by simp [hl]
  have HN : Hid (badRow b l = l.any fun n => !isNumberB b n) := by unfold Hid badRow; simp [hl]
  clear hl hv
  go_enter Tryz.func114, Tryz.ntmps114
  go_wp2_with (go_at_call 115; refine (HC.out).mono ?_; rintro e w1 ⟨rfl, hx1⟩)
  go_ret
  exact ⟨by rw [HN.out] <;> rfl, hx1⟩
 ·have t1 : ((l.length : Int) != (b.goods.length : Int)) = true := by simp; omega
  have HN : Hid (badRow b l = true) := by unfold Hid badRow; rw [decide_eq_true (by omega)]; rfl
  clear hl hv
  go_enter Tryz.func114, Tryz.ntmps114
  go_wp2
  go_ret
  exact ⟨by rw [HN.out] <;> rfl, Ext.refl _⟩
theorem enters_isMeans1 : ∀ args w, (callFunc 114 args).run Tryz.prog w = .ok (.enter 114 args) w := enters_of Tryz.func114 (by kernel_rfl) rfl
theorem contains_isMeans1 (v : Value) (t : List (List Int)) (k : Nat) (ga ea : Option Addr) (gc en ec : Nat) (b : Book) (w : World) (hv : IntRowsAt w v t) (hg : b.goods.length ≤ 9223372036854775807) (hb : BoxAt w k (.slice ga b.goods.length gc) b (.slice ea en ec)) :
  Calls Tryz.prog 113 #[v, .func (.func 114) #[] #[.pointer (some ⟨k, 0, none⟩)]] w fun e w' => e = .returned (.bool (t.any (badRow b))) ∧ Ext w w' := by
 obtain ⟨xs, rfl, h2, h3⟩ := hv
 rw [List.any_map]
 exact containsFuncR (f := fun x : Value × List Int => [x.1]) (fun x => x.1) (fun _ => rfl) v _ _ (badRow b ∘ Prod.snd) xs w h2 (fun x hx w1 h1 => isMeans1_any x.1 x.2 k ga ea gc en ec b w1 ((h3 x hx).ext h1) hg (hb.ext h1)) enters_isMeans1
set_option maxRecDepth 100000 in
theorem isMeans_any (v tv : Value) (b : Book) (t : List (List Int)) (w : World) (hb : BookAt w v b) (ht : IntRowsAt w tv t) :
  Calls Tryz.prog 63 #[v, tv] w fun e w' => e = .returned (.bool (isMeansB b t)) ∧ Ext w w' := by
 obtain ⟨ga, gc, ea, ec, rfl, hgl, hel⟩ := hb.open
 obtain ⟨ta, tc, rfl, t1, t2, _⟩ := ht.open
 obtain ⟨W, hW⟩ : ∃ W, W = w.alloc (bookBox (.slice ga b.goods.length gc) b (.slice ea b.entries.length ec)) := ⟨_, rfl⟩
 have hx0 : Ext w W := by rw [hW]; exact (Ext.refl w).alloc _
 have HX0 := Lib.hid hx0
 have hbox : BoxAt W w.heap.size (.slice ga b.goods.length gc) b (.slice ea b.entries.length ec) := by rw [hW]; exact BoxAt.new _ _ _ _
 have HC := Lib.hid (contains_isMeans1 (.slice ta t.length tc) t w.heap.size ga ea gc b.entries.length ec b W (ht.ext hx0) hgl hbox)
 obtain ⟨b0, b1, b2, b3⟩ := hbox
 clear hb ht hx0
 by_cases hl : (t.length : Int) = b.editions
 ·have t1 : ((t.length : Int) == b.editions) = true := by simp [hl]
  have HN : Hid (isMeansB b t = !(t.any (badRow b))) := by unfold Hid isMeansB; simp [hl]
  clear hl
  go_enter Tryz.func63, Tryz.ntmps63
  go_upto_region 1 with fail
  unfold bookBox at hW
  rw [← hW]
  clear hW
  go_wp2_with (go_at_call 113; refine (HC.out).mono ?_; rintro e w1 ⟨rfl, hx1⟩)
  go_ret
  exact ⟨by rw [HN.out] <;> rfl, HX0.out.trans hx1⟩
 ·have t1 : ((t.length : Int) == b.editions) = false := by simpa using hl
  have HN : Hid (isMeansB b t = false) := by unfold Hid isMeansB; rw [decide_eq_false hl]; rfl
  clear hl
  go_enter Tryz.func63, Tryz.ntmps63
  go_upto_region 1 with fail
  unfold bookBox at hW
  rw [← hW]
  clear hW
  go_wp2
  go_ret
  exact ⟨by rw [HN.out] <;> rfl, HX0.out⟩
def TruthAt (w : World) (v : Value) (t : List (List Int)) : Prop := ∃ tv, v = .agg #[tv] ∧ IntRowsAt w tv t
theorem all_take_succ {n : Nat} {p : Nat → Bool} : (List.range (n + 1)).all p = ((List.range n).all p && p n) := by rw [List.range_succ, List.all_append]; simp
theorem all_not {m n : Nat} {p : Nat → Bool} (h : n < m) (hp : p n = false) : (List.range m).all p = false := by
 cases hh : (List.range m).all p with
 | false => rfl
 | true => rw [List.all_eq_true] at hh; have := hh n (by simpa using h); rw [hp] at this; cases this
set_option maxRecDepth 100000 in
set_option maxHeartbeats 4000000 in
theorem fits_any (v tv : Value) (b : Book) (t : List (List Int)) (w : World) (hb : BookAt w v b) (ht : TruthAt w tv t) :
  Calls Tryz.prog 19 #[v, tv] w fun e w' => e = .returned (.tuple #[.bool (isBookB b && isMeansB b t && fitsB b t), .int .i64 (if isBookB b && isMeansB b t then 0 else 2)]) ∧ Ext w w' := by
 obtain ⟨tv, rfl, ht⟩ := ht
 have HIB := Lib.hid (fun W1 (h : Ext w W1) => isBook_any v b W1 (hb.ext h))
 have HIM := Lib.hid (fun W1 (h : Ext w W1) => isMeans_any v tv b t W1 (hb.ext h) (ht.ext h))
 have HSU := Lib.hid (fun (hB : BookB b) lv e l (hll : l.length = b.goods.length) W1 (h : Ext w W1) (hl : IntsAt W1 lv l) => suits_any v lv b e l W1 hB (hb.ext h) hl hll)
 obtain ⟨ga, gc, ea, ec, rfl, hgl, hel⟩ := hb.open
 obtain ⟨ta, tc, rfl, t1, t2, h3⟩ := ht.open
 obtain ⟨W, hW⟩ : ∃ W, W = (w.alloc (bookBox (.slice ga b.goods.length gc) b (.slice ea b.entries.length ec))).alloc (.cells #[.slice ta t.length tc] 42) := ⟨_, rfl⟩
 have hx0 : Ext w W := by rw [hW]; exact ((Ext.refl w).alloc _).alloc _
 have HX0 := Lib.hid hx0
 have c0 : W.cell? ⟨w.heap.size, 0, none⟩ = some (.slice ga b.goods.length gc) := by rw [hW]; go_simp
 have c1 : W.cell? ⟨w.heap.size, 1, none⟩ = some (.int .i64 b.editions) := by rw [hW]; go_simp
 have c2 : W.cell? ⟨w.heap.size, 2, none⟩ = some (.int .i64 b.moves) := by rw [hW]; go_simp
 have c3 : W.cell? ⟨w.heap.size, 3, none⟩ = some (.slice ea b.entries.length ec) := by rw [hW]; go_simp
 have c4 : W.cell? ⟨w.heap.size + 1, 0, none⟩ = some (.slice ta t.length tc) := by rw [hW]; go_simp
 have HF := Lib.hid (fun W1 (h : Ext W W1) => (⟨h.cell c0, h.cell c1, h.cell c2, h.cell c3, h.cell c4⟩ : _ ∧ _ ∧ _ ∧ _ ∧ _))
 have H3 := Lib.hid (fun k hk W1 (h : Ext W W1) => (by obtain ⟨b, o, x, ra, rc, q1, q2, q3, q4, q5, q6⟩ := h3 k hk; exact ⟨b, o, x, ra, rc, q1, q2, (hx0.trans h).cell q3, q4.ext (hx0.trans h), q5, q6⟩ :
  ∃ b o x ra rc, ta = some ⟨b, o, none⟩ ∧ Hid (t[k]? = some x) ∧ W1.cell? ⟨b, o + k, none⟩ = some (.slice ra x.length rc) ∧ IntsAt W1 (.slice ra x.length rc) x ∧ x.length ≤ rc ∧ rc ≤ 9223372036854775807))
 clear hb ht h3 hx0 c0 c1 c2 c3 c4
 cases h1 : isBookB b with
 | false =>
  rw [h1] at HIB
  clear h1
  rw [Bool.false_and, Bool.false_and]
  go_enter Tryz.func19, Tryz.ntmps19
  go_upto_region 1 with fail
  unfold bookBox at hW
  rw [← hW]
  clear hW
  have hq := Ext.refl W
  obtain ⟨c0, c1, c2, c3, c4⟩ := HF.out _ hq
  go_wp2_with (go_at_call 62; refine (HIB.out _ HX0.out).mono ?_; rintro r w1 ⟨rfl, hx1⟩)
  go_ret2
  exact ⟨rfl, HX0.out.trans hx1⟩
 | true =>
  rw [h1] at HIB
  have hB := bookB_of h1
  have HS := Lib.hid (fun lv e l hll W1 h hl => HSU.out hB lv e l hll W1 h hl)
  clear HSU h1
  rw [Bool.true_and]
  cases h2 : isMeansB b t with
  | false =>
   rw [h2] at HIM
   clear h2 hB
   rw [Bool.false_and]
   go_enter Tryz.func19, Tryz.ntmps19
   go_upto_region 1 with fail
   unfold bookBox at hW
   rw [← hW]
   clear hW
   have hq := Ext.refl W
   obtain ⟨c0, c1, c2, c3, c4⟩ := HF.out _ hq
   go_wp2_with (first | (go_at_call 62; refine (HIB.out _ HX0.out).mono ?_; rintro r w1 ⟨rfl, hx1⟩; replace hq := hx1; clear hx1 c0 c1 c2 c3 c4; obtain ⟨c0, c1, c2, c3, c4⟩ := HF.out _ hq) | (go_at_call 63; refine (HIM.out _ (HX0.out.trans hq)).mono ?_; rintro r w1 ⟨rfl, hx1⟩))
   go_ret2
   exact ⟨rfl, HX0.out.trans (hq.trans hx1)⟩
  | true =>
   rw [h2] at HIM
   rw [Bool.true_and]
   have HM : Hid ((t.length : Int) = b.editions ∧ ∀ x, x ∈ t → x.length = b.goods.length) := by
    unfold isMeansB at h2
    rw [Bool.and_eq_true, decide_eq_true_eq, Bool.not_eq_true', List.any_eq_false] at h2
    refine ⟨h2.1, fun x hx => ?_⟩
    have := h2.2 x hx
    unfold badRow at this
    rw [Bool.or_eq_true, not_or, decide_eq_true_eq] at this; omega
   have hm0 := hB.m0
   have hm5 := hB.m5
   have hg5 := hB.g5
   clear h2 hB
   go_enter Tryz.func19, Tryz.ntmps19
   go_upto_region 1 with fail
   unfold bookBox at hW
   rw [← hW]
   clear hW
   have hq := Ext.refl W
   obtain ⟨c0, c1, c2, c3, c4⟩ := HF.out _ hq
   go_wp2_with (first | (go_at_call 62; refine (HIB.out _ HX0.out).mono ?_; rintro r w1 ⟨rfl, hx1⟩; replace hq := hx1; clear hx1 c0 c1 c2 c3 c4; obtain ⟨c0, c1, c2, c3, c4⟩ := HF.out _ hq) | (go_at_call 63; refine (HIM.out _ (HX0.out.trans hq)).mono ?_; rintro r w1 ⟨rfl, hx1⟩; replace hq := hq.trans hx1; clear hx1 c0 c1 c2 c3 c4; obtain ⟨c0, c1, c2, c3, c4⟩ := HF.out _ hq))
   go_loopw [21] (fun i wr => ∃ k : Nat, k ≤ t.length ∧ i = .int .i64 k ∧ Hid ((List.range k).all (fitB b t) = true) ∧ Ext W wr) (fun i _ => t.length - (intOf i).toNat)
   case atStart => exact ⟨0, Nat.zero_le _, rfl, by simp [Hid], hq⟩
   case round =>
    clear hq
    obtain ⟨k, hk, rfl, hno, hq⟩ := hrel
    clear c0 c1 c2 c3 c4
    obtain ⟨c0, c1, c2, c3, c4⟩ := HF.out _ hq
    by_cases hlt : k < t.length
    ·obtain ⟨bb, o, x, ra, rc, rfl, hxk, hc, hrow, hr1, hr2⟩ := H3.out k hlt _ hq
     have HXK : Hid (t.getD k [] = x) := by unfold Hid; rw [List.getD_eq_getElem?_getD, hxk.out]; rfl
     have hxl : Hid (x.length = b.goods.length) := HM.out.2 x (List.mem_of_getElem? hxk.out)
     have HSX := Lib.hid (fun W1 (h : Ext wr W1) => HS.out (.slice ra x.length rc) (k : Int) x hxl.out W1 (HX0.out.trans (hq.trans h)) (hrow.ext h))
     have HFX := Lib.hid (fun W1 (h : Ext wr W1) => HF.out W1 (hq.trans h))
     have t1 : decide ((k : Int) < (t.length : Int)) = true := by simpa using hlt
     have i1 : (0 : Int) ≤ (k : Int) := by omega
     cases hs : suitsB b (k : Int) x with
     | false =>
      rw [hs] at HSX
      have HN : Hid (fitsB b t = false) := all_not hlt (by unfold fitB; rw [HXK.out, hs]; rfl)
      clear hs
      have HQ := Lib.hid hq
      clear hq c0 c1 c2 c3 c4
      obtain ⟨c0, c1, c2, c3, c4⟩ := HFX.out _ (Ext.refl _)
      go_upto_region 6 with fail
      clear c0 c1 c2 c3 c4
      refine region_reads (C := fun W => Ext wr W) (by kernel_rfl) (by kernel_rfl) ((Ext.refl wr).drew) ?_
      repeat (first | go_big_quiet_skip | (go_big_quiet_want; go_big_quiet_op; first | go_big_quiet_on | (refine ⟨_, fun W hW => rfl, ?_⟩; go_big_quiet_on)) | (go_big_quiet_want; refine ⟨?_, fun W hW => ?_, ?_⟩; rotate_left; (· (obtain ⟨c0, c1, c2, c3, c4⟩ := HFX.out W hW); go_simp; (first | with_reducible rfl | (go_at_call 64; refine (HSX.out W hW).mono ?_; rintro e w' ⟨rfl, hx1⟩; constructor; with_reducible rfl; exact hW.trans hx1))); (try simp only [Act.put, yA, yB, yC]); go_big_quiet_on))
      refine wpQuiet_nil ?_
      intro wq hq
      go_wp2
      go_ret2
      exact ⟨by rw [HN.out] <;> rfl, HX0.out.trans (HQ.out.trans hq)⟩
     | true =>
      rw [hs] at HSX
      rcases Nat.eq_zero_or_pos k with hk0 | hkp
      ·have HN : Hid ((List.range (k + 1)).all (fitB b t) = true) := by unfold Hid; rw [all_take_succ, hno.out]; unfold fitB; rw [HXK.out, hs, decide_eq_true hk0]; rfl
       have t2 : decide (0 < k) = false := by rw [decide_eq_false_iff_not]; omega
       have t3 : ¬ 0 < k := by omega
       clear hs hk0
       have HQ := Lib.hid hq
       clear hq c0 c1 c2 c3 c4
       obtain ⟨c0, c1, c2, c3, c4⟩ := HFX.out _ (Ext.refl _)
       go_upto_region 6 with fail
       clear c0 c1 c2 c3 c4
       refine region_reads (C := fun W => Ext wr W) (by kernel_rfl) (by kernel_rfl) ((Ext.refl wr).drew) ?_
       repeat (first | go_big_quiet_skip | (go_big_quiet_want; go_big_quiet_op; first | go_big_quiet_on | (refine ⟨_, fun W hW => rfl, ?_⟩; go_big_quiet_on)) | (go_big_quiet_want; refine ⟨?_, fun W hW => ?_, ?_⟩; rotate_left; (· (obtain ⟨c0, c1, c2, c3, c4⟩ := HFX.out W hW); go_simp; (first | with_reducible rfl | (go_at_call 64; refine (HSX.out W hW).mono ?_; rintro e w' ⟨rfl, hx1⟩; constructor; with_reducible rfl; exact hW.trans hx1))); (try simp only [Act.put, yA, yB, yC]); go_big_quiet_on))
       refine wpQuiet_nil ?_
       intro wq hq
       go_wp2
       go_roundw
       case rel => exact ⟨k + 1, by omega, by go_num, HN, HQ.out.trans hq⟩
       case measure => simp [intOf]; omega
      ·obtain ⟨m, rfl⟩ : ∃ m, k = m + 1 := ⟨k - 1, by omega⟩
       obtain ⟨bb', o', y, ya, yc, hbb, hyk, hcy, hrowy, hy1, hy2⟩ := H3.out m (by omega) _ hq
       cases hbb
       have HYK : Hid (t.getD m [] = y) := by unfold Hid; rw [List.getD_eq_getElem?_getD, hyk.out]; rfl
       have hyl : Hid (y.length = b.goods.length) := HM.out.2 y (List.mem_of_getElem? hyk.out)
       have HMV := Lib.hid (fun W1 (h : Ext wr W1) => moves_any (.slice ya y.length yc) (.slice ra x.length rc) y x W1 (hrowy.ext h) (hrow.ext h) (by rw [hyl.out, hxl.out]))
       have HFY := Lib.hid (fun W1 (h : Ext wr W1) => (⟨h.cell hcy, h.cell hc⟩ : _ ∧ _))
       have t2 : decide ((0 : Int) < ((m + 1 : Nat) : Int)) = true := by rw [decide_eq_true_eq]; omega
       have t3 : (0 : Int) < ((m + 1 : Nat) : Int) := by omega
       have w1' : IntKind.i64.wrap (((m + 1 : Nat) : Int) - 1) = (m : Int) := by rw [IntWalk.i64_in _ (by omega)]; omega
       have i2 : (m : Int) < (t.length : Int) := by omega
       have i3 : (0 : Int) ≤ (m : Int) := by omega
       have hbd := movedL_bd y x
       cases hmv : decide (b.moves < movedL y x) with
       | true =>
        have HN : Hid (fitsB b t = false) := all_not hlt (by unfold fitB; rw [HXK.out, hs]; simp only [Nat.add_sub_cancel]; rw [HYK.out]; rw [decide_eq_true_eq] at hmv; rw [decide_eq_false (by omega : ¬ movedL y x ≤ b.moves)]; simp)
        clear hs
        have HFZ := Lib.hid (fun W1 (h : Ext wr W1) => (⟨HFX.out W1 h, HFY.out W1 h⟩ : _ ∧ _))
        have HQ := Lib.hid hq
        clear hq c0 c1 c2 c3 c4
        obtain ⟨c0, c1, c2, c3, c4⟩ := HFX.out _ (Ext.refl _)
        go_upto_region 6 with fail
        clear c0 c1 c2 c3 c4
        refine region_reads (C := fun W => Ext wr W) (by kernel_rfl) (by kernel_rfl) ((Ext.refl wr).drew) ?_
        repeat (first | go_big_quiet_skip | (go_big_quiet_want; go_big_quiet_op; first | go_big_quiet_on | (refine ⟨_, fun W hW => rfl, ?_⟩; go_big_quiet_on)) | (go_big_quiet_want; refine ⟨?_, fun W hW => ?_, ?_⟩; rotate_left; (· (obtain ⟨⟨c0, c1, c2, c3, c4⟩, c5, c6⟩ := HFZ.out W hW); go_simp; (first | with_reducible rfl | (go_at_call 64; refine (HSX.out W hW).mono ?_; rintro e w' ⟨rfl, hx1⟩; constructor; with_reducible rfl; exact hW.trans hx1) | (go_at_call 65; refine (HMV.out W hW).mono ?_; rintro e w' ⟨rfl, hx1⟩; constructor; with_reducible rfl; exact hW.trans hx1))); (try simp only [Act.put, yA, yB, yC]); go_big_quiet_on))
        refine wpQuiet_nil ?_
        intro wq hq
        go_wp2
        go_ret2
        exact ⟨by rw [HN.out] <;> rfl, HX0.out.trans (HQ.out.trans hq)⟩
       | false =>
        have HN : Hid ((List.range (m + 1 + 1)).all (fitB b t) = true) := by unfold Hid; rw [all_take_succ, hno.out]; unfold fitB; rw [HXK.out, hs]; simp only [Nat.add_sub_cancel]; rw [HYK.out]; rw [decide_eq_false_iff_not] at hmv; rw [decide_eq_true (by omega : movedL y x ≤ b.moves)]; simp
        clear hs
        have HFZ := Lib.hid (fun W1 (h : Ext wr W1) => (⟨HFX.out W1 h, HFY.out W1 h⟩ : _ ∧ _))
        have HQ := Lib.hid hq
        clear hq c0 c1 c2 c3 c4
        obtain ⟨c0, c1, c2, c3, c4⟩ := HFX.out _ (Ext.refl _)
        go_upto_region 6 with fail
        clear c0 c1 c2 c3 c4
        refine region_reads (C := fun W => Ext wr W) (by kernel_rfl) (by kernel_rfl) ((Ext.refl wr).drew) ?_
        repeat (first | go_big_quiet_skip | (go_big_quiet_want; go_big_quiet_op; first | go_big_quiet_on | (refine ⟨_, fun W hW => rfl, ?_⟩; go_big_quiet_on)) | (go_big_quiet_want; refine ⟨?_, fun W hW => ?_, ?_⟩; rotate_left; (· (obtain ⟨⟨c0, c1, c2, c3, c4⟩, c5, c6⟩ := HFZ.out W hW); go_simp; (first | with_reducible rfl | (go_at_call 64; refine (HSX.out W hW).mono ?_; rintro e w' ⟨rfl, hx1⟩; constructor; with_reducible rfl; exact hW.trans hx1) | (go_at_call 65; refine (HMV.out W hW).mono ?_; rintro e w' ⟨rfl, hx1⟩; constructor; with_reducible rfl; exact hW.trans hx1))); (try simp only [Act.put, yA, yB, yC]); go_big_quiet_on))
        refine wpQuiet_nil ?_
        intro wq hq
        go_wp2
        go_roundw
        case rel => exact ⟨m + 2, by omega, by go_num, HN, HQ.out.trans hq⟩
        case measure => simp [intOf]; omega
    ·have HN : Hid (fitsB b t = true) := by
      unfold Hid fitsB
      have : k = t.length := by omega
      rw [← this]; exact hno.out
     go_wp2
     go_ret2
     exact ⟨by rw [HN.out] <;> rfl, HX0.out.trans hq⟩
end Go.Proofs.YtoohhefegfpipaaGreatDoor
