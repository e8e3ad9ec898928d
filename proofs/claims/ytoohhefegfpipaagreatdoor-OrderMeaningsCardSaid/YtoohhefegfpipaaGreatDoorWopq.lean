/- Fits. -/
import Derived.Test.YtoohhefegfpipaaGreatDoorOaj
import Derived.Test.YtoohhefegfpipaaGreatDoorOpkq
import Derived.Test.YtoohhefegfpipaaGreatDoorOlt
import Derived.WalkKit
import Derived.ProofKit
import Derived.OpenShut
import Derived.Deep.Slices
import Derived.Lib.SmallJoins
import Derived.Lib.LaidTab
import Derived.LaidSub
import Derived.Carry
import Derived.Test.YtoohhefegfpipaaGreatDoorOpr
import Derived.Test.YtoohhefegfpipaaGreatDoorCards
import Derived.Test.YtoohhefegfpipaaGreatDoorTie
import Derived.Deep.DeepHandedRow
import Derived.WideKeyArgs
namespace Go.Proofs.YtoohhefegfpipaaGreatDoor
open Go.RowKit
theorem check_any (v : Value) (b : Book) (w : World) (hb : BookAt w v b) :
  Calls Tryz.prog 18 #[v] w fun e w' => e = .returned (.int .i64 (if isBookB b then 0 else 2)) ∧ Ext w w' := by
 have HI := Lib.hid (fun W (h : Ext w W) => isBook_any v b W (hb.ext h))
 obtain ⟨ga, gc, ea, ec, rfl, hgl, hel⟩ := hb.open
 clear hb
 cases h : isBookB b with
 | false =>
  rw [h] at HI
  go_enter Tryz.func18, Tryz.ntmps18
  go_wp2_with (go_at_call 62; refine (HI.out _ ((Ext.refl w).alloc _)).mono ?_; rintro e w1 ⟨rfl, hx1⟩)
  go_ret
  exact ⟨rfl, ((Ext.refl w).alloc _).trans hx1⟩
 | true =>
  rw [h] at HI
  go_enter Tryz.func18, Tryz.ntmps18
  go_wp2_with (go_at_call 62; refine (HI.out _ ((Ext.refl w).alloc _)).mono ?_; rintro e w1 ⟨rfl, hx1⟩)
  go_ret
  exact ⟨rfl, ((Ext.refl w).alloc _).trans hx1⟩
theorem isMeans11_any (n : Int) (k : Nat) (ga ea : Option Addr) (gc en ec : Nat) (b : Book) (w : World) (hg : b.goods.length ≤ 9223372036854775807) (hb : BoxAt w k (.slice ga b.goods.length gc) b (.slice ea en ec)) :
  Calls Tryz.prog 116 #[.int .i64 n, .pointer (some ⟨k, 0, none⟩)] w fun e w' => e = .returned (.bool (!isNumberB b n)) ∧ Ext w w' := by
 obtain ⟨b0, b1, b2, b3⟩ := hb
 have HN := Lib.hid (fun W1 => isNumber_any ga ea gc en ec b n W1 hg)
 clear hg
 go_enter Tryz.func116, Tryz.ntmps116
 go_wp2_with (go_at_call 67; refine (HN.out _).mono ?_; rintro e w1 ⟨rfl, hx1⟩)
 go_ret
 exact ⟨rfl, hx1⟩
theorem enters_isMeans11 : ∀ args w, (callFunc 116 args).run Tryz.prog w = .ok (.enter 116 args) w := enters_of Tryz.func116 (by kernel_rfl) rfl
theorem contains_isMeans11 (v : Value) (l : List Int) (k : Nat) (ga ea : Option Addr) (gc en ec : Nat) (b : Book) (w : World) (hv : IntsAt w v l) (hg : b.goods.length ≤ 9223372036854775807) (hb : BoxAt w k (.slice ga b.goods.length gc) b (.slice ea en ec)) :
  Calls Tryz.prog 115 #[v, .func (.func 116) #[] #[.pointer (some ⟨k, 0, none⟩)]] w fun e w' => e = .returned (.bool (l.any fun n => !isNumberB b n)) ∧ Ext w w' :=
 containsFuncI (f := fun x : Int => [Value.int .i64 x]) (fun x => .int .i64 x) (fun _ => rfl) v _ _ (fun n => !isNumberB b n) l w hv.row (fun x _ w1 h1 => isMeans11_any x k ga ea gc en ec b w1 hg (hb.ext h1)) enters_isMeans11
theorem isMeans1_any (v : Value) (l : List Int) (k : Nat) (ga ea : Option Addr) (gc en ec : Nat) (b : Book) (w : World) (hv : IntsAt w v l) (hg : b.goods.length ≤ 9223372036854775807) (hb : BoxAt w k (.slice ga b.goods.length gc) b (.slice ea en ec)) :
  Calls Tryz.prog 114 #[v, .pointer (some ⟨k, 0, none⟩)] w fun e w' => e = .returned (.bool (badRow b l)) ∧ Ext w w' := by
 obtain ⟨la, lc, rfl, l1, l2, _⟩ := hv.open
 have HC := Lib.hid (contains_isMeans11 (.slice la l.length lc) l k ga ea gc en ec b w hv hg hb)
 obtain ⟨b0, b1, b2, b3⟩ := hb
 by_cases hl : l.length = b.goods.length
 ·have t1 : ((l.length : Int) != (b.goods.length : Int)) = false := by simp [hl]
  have HN : Hid (badRow b l = l.any fun n => !isNumberB b n) := by unfold Hid badRow; simp [hl]
  clear hl hv
  go_enter Tryz.func114, Tryz.ntmps114
  go_wp2_with (go_at_call 115; refine (HC.out).mono ?_; rintro e w1 ⟨rfl, hx1⟩)
  go_ret
  exact ⟨by rw [HN.out] <;> rfl, hx1⟩
 ·have t1 : ((l.length : Int) != (b.goods.length : Int)) = true := by simp; omega
  have HN : Hid (badRow b l = true) := by unfold Hid badRow; rw [decide_eq_true (by omega)]; rfl
  clear hl hv
  go_enter Tryz.func114, Tryz.ntmps114
  go_wp2
  go_ret
  exact ⟨by rw [HN.out] <;> rfl, Ext.refl _⟩
theorem enters_isMeans1 : ∀ args w, (callFunc 114 args).run Tryz.prog w = .ok (.enter 114 args) w := enters_of Tryz.func114 (by kernel_rfl) rfl
theorem contains_isMeans1 (v : Value) (t : List (List Int)) (k : Nat) (ga ea : Option Addr) (gc en ec : Nat) (b : Book) (w : World) (hv : IntRowsAt w v t) (hg : b.goods.length ≤ 9223372036854775807) (hb : BoxAt w k (.slice ga b.goods.length gc) b (.slice ea en ec)) :
  Calls Tryz.prog 113 #[v, .func (.func 114) #[] #[.pointer (some ⟨k, 0, none⟩)]] w fun e w' => e = .returned (.bool (t.any (badRow b))) ∧ Ext w w' := by
 obtain ⟨xs, rfl, h2, h3⟩ := hv
 rw [List.any_map]
 exact containsFuncR (f := fun x : Value × List Int => [x.1]) (fun x => x.1) (fun _ => rfl) v _ _ (badRow b ∘ Prod.snd) xs w h2 (fun x hx w1 h1 => isMeans1_any x.1 x.2 k ga ea gc en ec b w1 ((h3 x hx).ext h1) hg (hb.ext h1)) enters_isMeans1
set_option maxRecDepth 100000 in
theorem isMeans_any (v tv : Value) (b : Book) (t : List (List Int)) (w : World) (hb : BookAt w v b) (ht : IntRowsAt w tv t) :
  Calls Tryz.prog 63 #[v, tv] w fun e w' => e = .returned (.bool (isMeansB b t)) ∧ Ext w w' := by
 obtain ⟨ga, gc, ea, ec, rfl, hgl, hel⟩ := hb.open
 obtain ⟨ta, tc, rfl, t1, t2, _⟩ := ht.open
 obtain ⟨W, hW⟩ : ∃ W, W = w.alloc (bookBox (.slice ga b.goods.length gc) b (.slice ea b.entries.length ec)) := ⟨_, rfl⟩
 have hx0 : Ext w W := by rw [hW]; exact (Ext.refl w).alloc _
 have HX0 := Lib.hid hx0
 have hbox : BoxAt W w.heap.size (.slice ga b.goods.length gc) b (.slice ea b.entries.length ec) := by rw [hW]; exact BoxAt.new _ _ _ _
 have HC := Lib.hid (contains_isMeans1 (.slice ta t.length tc) t w.heap.size ga ea gc b.entries.length ec b W (ht.ext hx0) hgl hbox)
 obtain ⟨b0, b1, b2, b3⟩ := hbox
 clear hb ht hx0
 by_cases hl : (t.length : Int) = b.editions
 ·have t1 : ((t.length : Int) == b.editions) = true := by simp [hl]
  have HN : Hid (isMeansB b t = !(t.any (badRow b))) := by unfold Hid isMeansB; simp [hl]
  clear hl
  go_enter Tryz.func63, Tryz.ntmps63
  go_upto_region 1 with fail
  unfold bookBox at hW
  rw [← hW]
  clear hW
  go_wp2_with (go_at_call 113; refine (HC.out).mono ?_; rintro e w1 ⟨rfl, hx1⟩)
  go_ret
  exact ⟨by rw [HN.out] <;> rfl, HX0.out.trans hx1⟩
 ·have t1 : ((t.length : Int) == b.editions) = false := by simpa using hl
  have HN : Hid (isMeansB b t = false) := by unfold Hid isMeansB; rw [decide_eq_false hl]; rfl
  clear hl
  go_enter Tryz.func63, Tryz.ntmps63
  go_upto_region 1 with fail
  unfold bookBox at hW
  rw [← hW]
  clear hW
  go_wp2
  go_ret
  exact ⟨by rw [HN.out] <;> rfl, HX0.out⟩
def TruthAt (w : World) (v : Value) (t : List (List Int)) : Prop := ∃ tv, v = .agg #[tv] ∧ IntRowsAt w tv t
theorem all_take_succ {n : Nat} {p : Nat → Bool} : (List.range (n + 1)).all p = ((List.range n).all p && p n) := by rw [List.range_succ, List.all_append]; simp
theorem all_not {m n : Nat} {p : Nat → Bool} (h : n < m) (hp : p n = false) : (List.range m).all p = false := by
 cases hh : (List.range m).all p with
 | false => rfl
 | true => rw [List.all_eq_true] at hh; have := hh n (by simpa using h); rw [hp] at this; cases this
set_option maxRecDepth 100000 in
set_option maxHeartbeats 4000000 in
theorem fits_any (v tv : Value) (b : Book) (t : List (List Int)) (w : World) (hb : BookAt w v b) (ht : TruthAt w tv t) :
  Calls Tryz.prog 19 #[v, tv] w fun e w' => e = .returned (.tuple #[.bool (isBookB b && isMeansB b t && fitsB b t), .int .i64 (if isBookB b && isMeansB b t then 0 else 2)]) ∧ Ext w w' := by
 obtain ⟨tv, rfl, ht⟩ := ht
 have HIB := Lib.hid (fun W1 (h : Ext w W1) => isBook_any v b W1 (hb.ext h))
 have HIM := Lib.hid (fun W1 (h : Ext w W1) => isMeans_any v tv b t W1 (hb.ext h) (ht.ext h))
 have HSU := Lib.hid (fun (hB : BookB b) lv e l (hll : l.length = b.goods.length) W1 (h : Ext w W1) (hl : IntsAt W1 lv l) => suits_any v lv b e l W1 hB (hb.ext h) hl hll)
 obtain ⟨ga, gc, ea, ec, rfl, hgl, hel⟩ := hb.open
 obtain ⟨ta, tc, rfl, t1, t2, h3⟩ := ht.open
 obtain ⟨W, hW⟩ : ∃ W, W = (w.alloc (bookBox (.slice ga b.goods.length gc) b (.slice ea b.entries.length ec))).alloc (.cells #[.slice ta t.length tc] 42) := ⟨_, rfl⟩
 have hx0 : Ext w W := by rw [hW]; exact ((Ext.refl w).alloc _).alloc _
 have HX0 := Lib.hid hx0
 have c0 : W.cell? ⟨w.heap.size, 0, none⟩ = some (.slice ga b.goods.length gc) := by rw [hW]; go_simp
 have c1 : W.cell? ⟨w.heap.size, 1, none⟩ = some (.int .i64 b.editions) := by rw [hW]; go_simp
 have c2 : W.cell? ⟨w.heap.size, 2, none⟩ = some (.int .i64 b.moves) := by rw [hW]; go_simp
 have c3 : W.cell? ⟨w.heap.size, 3, none⟩ = some (.slice ea b.entries.length ec) := by rw [hW]; go_simp
 have c4 : W.cell? ⟨w.heap.size + 1, 0, none⟩ = some (.slice ta t.length tc) := by rw [hW]; go_simp
 have HF := Lib.hid (fun W1 (h : Ext W W1) => (⟨h.cell c0, h.cell c1, h.cell c2, h.cell c3, h.cell c4⟩ : _ ∧ _ ∧ _ ∧ _ ∧ _))
 have H3 := Lib.hid (fun k hk W1 (h : Ext W W1) => (by obtain ⟨b, o, x, ra, rc, q1, q2, q3, q4, q5, q6⟩ := h3 k hk; exact ⟨b, o, x, ra, rc, q1, q2, (hx0.trans h).cell q3, q4.ext (hx0.trans h), q5, q6⟩ :
  ∃ b o x ra rc, ta = some ⟨b, o, none⟩ ∧ Hid (t[k]? = some x) ∧ W1.cell? ⟨b, o + k, none⟩ = some (.slice ra x.length rc) ∧ IntsAt W1 (.slice ra x.length rc) x ∧ x.length ≤ rc ∧ rc ≤ 9223372036854775807))
 clear hb ht h3 hx0 c0 c1 c2 c3 c4
 cases h1 : isBookB b with
 | false =>
  rw [h1] at HIB
  clear h1
  rw [Bool.false_and, Bool.false_and]
  go_enter Tryz.func19, Tryz.ntmps19
  go_upto_region 1 with fail
  unfold bookBox at hW
  rw [← hW]
  clear hW
  have hq := Ext.refl W
  obtain ⟨c0, c1, c2, c3, c4⟩ := HF.out _ hq
  go_wp2_with (go_at_call 62; refine (HIB.out _ HX0.out).mono ?_; rintro r w1 ⟨rfl, hx1⟩)
  go_ret2
  exact ⟨rfl, HX0.out.trans hx1⟩
 | true =>
  rw [h1] at HIB
  have hB := bookB_of h1
  have HS := Lib.hid (fun lv e l hll W1 h hl => HSU.out hB lv e l hll W1 h hl)
  clear HSU h1
  rw [Bool.true_and]
  cases h2 : isMeansB b t with
  | false =>
   rw [h2] at HIM
   clear h2 hB
   rw [Bool.false_and]
   go_enter Tryz.func19, Tryz.ntmps19
   go_upto_region 1 with fail
   unfold bookBox at hW
   rw [← hW]
   clear hW
   have hq := Ext.refl W
   obtain ⟨c0, c1, c2, c3, c4⟩ := HF.out _ hq
   go_wp2_with (first | (go_at_call 62; refine (HIB.out _ HX0.out).mono ?_; rintro r w1 ⟨rfl, hx1⟩; replace hq := hx1; clear hx1 c0 c1 c2 c3 c4; obtain ⟨c0, c1, c2, c3, c4⟩ := HF.out _ hq) | (go_at_call 63; refine (HIM.out _ (HX0.out.trans hq)).mono ?_; rintro r w1 ⟨rfl, hx1⟩))
   go_ret2
   exact ⟨rfl, HX0.out.trans (hq.trans hx1)⟩
  | true =>
   rw [h2] at HIM
   rw [Bool.true_and]
   have HM : Hid ((t.length : Int) = b.editions ∧ ∀ x, x ∈ t → x.length = b.goods.length) := by
    unfold isMeansB at h2
    rw [Bool.and_eq_true, decide_eq_true_eq, Bool.not_eq_true', List.any_eq_false] at h2
    refine ⟨h2.1, fun x hx => ?_⟩
    have := h2.2 x hx
    unfold badRow at this
    rw [Bool.or_eq_true, not_or, decide_eq_true_eq] at this; omega
   have hm0 := hB.m0
   have hm5 := hB.m5
   have hg5 := hB.g5
   clear h2 hB
   go_enter Tryz.func19, Tryz.ntmps19
   go_upto_region 1 with fail
   unfold bookBox at hW
   rw [← hW]
   clear hW
   have hq := Ext.refl W
   obtain ⟨c0, c1, c2, c3, c4⟩ := HF.out _ hq
   go_wp2_with (first | (go_at_call 62; refine (HIB.out _ HX0.out).mono ?_; rintro r w1 ⟨rfl, hx1⟩; replace hq := hx1; clear hx1 c0 c1 c2 c3 c4; obtain ⟨c0, c1, c2, c3, c4⟩ := HF.out _ hq) | (go_at_call 63; refine (HIM.out _ (HX0.out.trans hq)).mono ?_; rintro r w1 ⟨rfl, hx1⟩; replace hq := hq.trans hx1; clear hx1 c0 c1 c2 c3 c4; obtain ⟨c0, c1, c2, c3, c4⟩ := HF.out _ hq))
   go_loopw [21] (fun i wr => ∃ k : Nat, k ≤ t.length ∧ i = .int .i64 k ∧ Hid ((List.range k).all (fitB b t) = true) ∧ Ext W wr) (fun i _ => t.length - (intOf i).toNat)
   case atStart => exact ⟨0, Nat.zero_le _, rfl, by simp [Hid], hq⟩
   case round =>
    clear hq
    obtain ⟨k, hk, rfl, hno, hq⟩ := hrel
    clear c0 c1 c2 c3 c4
    obtain ⟨c0, c1, c2, c3, c4⟩ := HF.out _ hq
    by_cases hlt : k < t.length
    ·obtain ⟨bb, o, x, ra, rc, rfl, hxk, hc, hrow, hr1, hr2⟩ := H3.out k hlt _ hq
     have HXK : Hid (t.getD k [] = x) := by unfold Hid; rw [List.getD_eq_getElem?_getD, hxk.out]; rfl
     have hxl : Hid (x.length = b.goods.length) := HM.out.2 x (List.mem_of_getElem? hxk.out)
     have HSX := Lib.hid (fun W1 (h : Ext wr W1) => HS.out (.slice ra x.length rc) (k : Int) x hxl.out W1 (HX0.out.trans (hq.trans h)) (hrow.ext h))
     have HFX := Lib.hid (fun W1 (h : Ext wr W1) => HF.out W1 (hq.trans h))
     have t1 : decide ((k : Int) < (t.length : Int)) = true := by simpa using hlt
     have i1 : (0 : Int) ≤ (k : Int) := by omega
     cases hs : suitsB b (k : Int) x with
     | false =>
      rw [hs] at HSX
      have HN : Hid (fitsB b t = false) := all_not hlt (by unfold fitB; rw [HXK.out, hs]; rfl)
      clear hs
      have HQ := Lib.hid hq
      clear hq c0 c1 c2 c3 c4
      obtain ⟨c0, c1, c2, c3, c4⟩ := HFX.out _ (Ext.refl _)
      go_upto_region 6 with fail
      clear c0 c1 c2 c3 c4
      refine region_reads (C := fun W => Ext wr W) (by kernel_rfl) (by kernel_rfl) ((Ext.refl wr).drew) ?_
      repeat (first | go_big_quiet_skip | (go_big_quiet_want; go_big_quiet_op; first | go_big_quiet_on | (refine ⟨_, fun W hW => rfl, ?_⟩; go_big_quiet_on)) | (go_big_quiet_want; refine ⟨?_, fun W hW => ?_, ?_⟩; rotate_left; (· (obtain ⟨c0, c1, c2, c3, c4⟩ := HFX.out W hW); go_simp; (first | with_reducible rfl | (go_at_call 64; refine (HSX.out W hW).mono ?_; rintro e w' ⟨rfl, hx1⟩; constructor; with_reducible rfl; exact hW.trans hx1))); (try simp only [Act.put, yA, yB, yC]); go_big_quiet_on))
      refine wpQuiet_nil ?_
      intro wq hq
      go_wp2
      go_ret2
      exact ⟨by rw [HN.out] <;> rfl, HX0.out.trans (HQ.out.trans hq)⟩
     | true =>
      rw [hs] at HSX
      rcases Nat.eq_zero_or_pos k with hk0 | hkp
      ·have HN : Hid ((List.range (k + 1)).all (fitB b t) = true) := by unfold Hid; rw [all_take_succ, hno.out]; unfold fitB; rw [HXK.out, hs, decide_eq_true hk0]; rfl
       have t2 : decide (0 < k) = false := by rw [decide_eq_false_iff_not]; omega
       have t3 : ¬ 0 < k := by omega
       clear hs hk0
       have HQ := Lib.hid hq
       clear hq c0 c1 c2 c3 c4
       obtain ⟨c0, c1, c2, c3, c4⟩ := HFX.out _ (Ext.refl _)
       go_upto_region 6 with fail
       clear c0 c1 c2 c3 c4
       refine region_reads (C := fun W => Ext wr W) (by kernel_rfl) (by kernel_rfl) ((Ext.refl wr).drew) ?_
       repeat (first | go_big_quiet_skip | (go_big_quiet_want; go_big_quiet_op; first | go_big_quiet_on | (refine ⟨_, fun W hW => rfl, ?_⟩; go_big_quiet_on)) | (go_big_quiet_want; refine ⟨?_, fun W hW => ?_, ?_⟩; rotate_left; (· (obtain ⟨c0, c1, c2, c3, c4⟩ := HFX.out W hW); go_simp; (first | with_reducible rfl | (go_at_call 64; refine (HSX.out W hW).mono ?_; rintro e w' ⟨rfl, hx1⟩; constructor; with_reducible rfl; exact hW.trans hx1))); (try simp only [Act.put, yA, yB, yC]); go_big_quiet_on))
       refine wpQuiet_nil ?_
       intro wq hq
       go_wp2
       go_roundw
       case rel => exact ⟨k + 1, by omega, by go_num, HN, HQ.out.trans hq⟩
       case measure => simp [intOf]; omega
      ·obtain ⟨m, rfl⟩ : ∃ m, k = m + 1 := ⟨k - 1, by omega⟩
       obtain ⟨bb', o', y, ya, yc, hbb, hyk, hcy, hrowy, hy1, hy2⟩ := H3.out m (by omega) _ hq
       cases hbb
       have HYK : Hid (t.getD m [] = y) := by unfold Hid; rw [List.getD_eq_getElem?_getD, hyk.out]; rfl
       have hyl : Hid (y.length = b.goods.length) := HM.out.2 y (List.mem_of_getElem? hyk.out)
       have HMV := Lib.hid (fun W1 (h : Ext wr W1) => moves_any (.slice ya y.length yc) (.slice ra x.length rc) y x W1 (hrowy.ext h) (hrow.ext h) (by rw [hyl.out, hxl.out]))
       have HFY := Lib.hid (fun W1 (h : Ext wr W1) => (⟨h.cell hcy, h.cell hc⟩ : _ ∧ _))
       have t2 : decide ((0 : Int) < ((m + 1 : Nat) : Int)) = true := by rw [decide_eq_true_eq]; omega
       have t3 : (0 : Int) < ((m + 1 : Nat) : Int) := by omega
       have w1' : IntKind.i64.wrap (((m + 1 : Nat) : Int) - 1) = (m : Int) := by rw [IntWalk.i64_in _ (by omega)]; omega
       have i2 : (m : Int) < (t.length : Int) := by omega
       have i3 : (0 : Int) ≤ (m : Int) := by omega
       have hbd := movedL_bd y x
       cases hmv : decide (b.moves < movedL y x) with
       | true =>
        have HN : Hid (fitsB b t = false) := all_not hlt (by unfold fitB; rw [HXK.out, hs]; simp only [Nat.add_sub_cancel]; rw [HYK.out]; rw [decide_eq_true_eq] at hmv; rw [decide_eq_false (by omega : ¬ movedL y x ≤ b.moves)]; simp)
        clear hs
        have HFZ := Lib.hid (fun W1 (h : Ext wr W1) => (⟨HFX.out W1 h, HFY.out W1 h⟩ : _ ∧ _))
        have HQ := Lib.hid hq
        clear hq c0 c1 c2 c3 c4
        obtain ⟨c0, c1, c2, c3, c4⟩ := HFX.out _ (Ext.refl _)
        go_upto_region 6 with fail
        clear c0 c1 c2 c3 c4
        refine region_reads (C := fun W => Ext wr W) (by kernel_rfl) (by kernel_rfl) ((Ext.refl wr).drew) ?_
        repeat (first | go_big_quiet_skip | (go_big_quiet_want; go_big_quiet_op; first | go_big_quiet_on | (refine ⟨_, fun W hW => rfl, ?_⟩; go_big_quiet_on)) | (go_big_quiet_want; refine ⟨?_, fun W hW => ?_, ?_⟩; rotate_left; (· (obtain ⟨⟨c0, c1, c2, c3, c4⟩, c5, c6⟩ := HFZ.out W hW); go_simp; (first | with_reducible rfl | (go_at_call 64; refine (HSX.out W hW).mono ?_; rintro e w' ⟨rfl, hx1⟩; constructor; with_reducible rfl; exact hW.trans hx1) | (go_at_call 65; refine (HMV.out W hW).mono ?_; rintro e w' ⟨rfl, hx1⟩; constructor; with_reducible rfl; exact hW.trans hx1))); (try simp only [Act.put, yA, yB, yC]); go_big_quiet_on))
        refine wpQuiet_nil ?_
        intro wq hq
        go_wp2
        go_ret2
        exact ⟨by rw [HN.out] <;> rfl, HX0.out.trans (HQ.out.trans hq)⟩
       | false =>
        have HN : Hid ((List.range (m + 1 + 1)).all (fitB b t) = true) := by unfold Hid; rw [all_take_succ, hno.out]; unfold fitB; rw [HXK.out, hs]; simp only [Nat.add_sub_cancel]; rw [HYK.out]; rw [decide_eq_false_iff_not] at hmv; rw [decide_eq_true (by omega : movedL y x ≤ b.moves)]; simp
        clear hs
        have HFZ := Lib.hid (fun W1 (h : Ext wr W1) => (⟨HFX.out W1 h, HFY.out W1 h⟩ : _ ∧ _))
        have HQ := Lib.hid hq
        clear hq c0 c1 c2 c3 c4
        obtain ⟨c0, c1, c2, c3, c4⟩ := HFX.out _ (Ext.refl _)
        go_upto_region 6 with fail
        clear c0 c1 c2 c3 c4
        refine region_reads (C := fun W => Ext wr W) (by kernel_rfl) (by kernel_rfl) ((Ext.refl wr).drew) ?_
        repeat (first | go_big_quiet_skip | (go_big_quiet_want; go_big_quiet_op; first | go_big_quiet_on | (refine ⟨_, fun W hW => rfl, ?_⟩; go_big_quiet_on)) | (go_big_quiet_want; refine ⟨?_, fun W hW => ?_, ?_⟩; rotate_left; (· (obtain ⟨⟨c0, c1, c2, c3, c4⟩, c5, c6⟩ := HFZ.out W hW); go_simp; (first | with_reducible rfl | (go_at_call 64; refine (HSX.out W hW).mono ?_; rintro e w' ⟨rfl, hx1⟩; constructor; with_reducible rfl; exact hW.trans hx1) | (go_at_call 65; refine (HMV.out W hW).mono ?_; rintro e w' ⟨rfl, hx1⟩; constructor; with_reducible rfl; exact hW.trans hx1))); (try simp only [Act.put, yA, yB, yC]); go_big_quiet_on))
        refine wpQuiet_nil ?_
        intro wq hq
        go_wp2
        go_roundw
        case rel => exact ⟨m + 2, by omega, by go_num, HN, HQ.out.trans hq⟩
        case measure => simp [intOf]; omega
    ·have HN : Hid (fitsB b t = true) := by
      unfold Hid fitsB
      have : k = t.length := by omega
      rw [← this]; exact hno.out
     go_wp2
     go_ret2
     exact ⟨by rw [HN.out] <;> rfl, HX0.out.trans hq⟩
end Go.Proofs.YtoohhefegfpipaaGreatDoor

/- From what a row's condition gives (readings) to ints, rows, books, truths, packs, sellers, buyers as the walks know them. -/
namespace Go.Proofs.YtoohhefegfpipaaGreatDoor
open Go.ChangeShapes Go.WideShapes Go.ChangeAt Go.RowKit Go.Deep
theorem laidOut : laidOutB Tryz.prog = true := by kernel_rfl
theorem cellsInt : Tryz.prog.cellsOf 3 = 1 := by kernel_rfl
theorem cellsInts : Tryz.prog.cellsOf 47 = 1 := by kernel_rfl
theorem cellsGood : Tryz.prog.cellsOf 124 = 1 := by kernel_rfl
theorem cellsGoods : Tryz.prog.cellsOf 22 = 1 := by kernel_rfl
theorem cellsEntry : Tryz.prog.cellsOf 126 = 3 := by kernel_rfl
theorem cellsEntries : Tryz.prog.cellsOf 23 = 1 := by kernel_rfl
theorem cellsBook : Tryz.prog.cellsOf 25 = 4 := by kernel_rfl
theorem cellsRows : Tryz.prog.cellsOf 33 = 1 := by kernel_rfl
theorem cellsTruth : Tryz.prog.cellsOf 42 = 1 := by kernel_rfl
theorem list1 {α : Type} {l : List α} (h : l.length = 1) : ∃ a, l = [a] := by
 match l, h with
 | [a], _ => exact ⟨a, rfl⟩
theorem list2 {α : Type} {l : List α} (h : l.length = 2) : ∃ a b, l = [a, b] := by
 match l, h with
 | [a, b], _ => exact ⟨a, b, rfl⟩
theorem list3 {α : Type} {l : List α} (h : l.length = 3) : ∃ a b c, l = [a, b, c] := by
 match l, h with
 | [a, b, c], _ => exact ⟨a, b, c, rfl⟩
theorem list4 {α : Type} {l : List α} (h : l.length = 4) : ∃ a b c d, l = [a, b, c, d] := by
 match l, h with
 | [a, b, c, d], _ => exact ⟨a, b, c, d, rfl⟩
section
variable {H : Type} {enc : TypeId × Value → H} {w : World} {base : Nat} {spare : Nat → Bool} {held : Bool}
/-- A field that is an int. -/
theorem int_at {n : Nat} {cs : List Value} {j : Nat} {y : DataW H × List MemPlace} (h : DataW.trod enc Tryz.prog w base spare held n 3 ((cs.drop j).take (Tryz.prog.cellsOf 3)) = some y) : ∃ z, cs[j]? = some (.int .i64 z) := by
 rw [cellsInt] at h
 obtain ⟨z, hz, _⟩ := DataW.trod_int Tryz.underlying3 h
 refine ⟨z, ?_⟩
 have := congrArg (·[0]?) hz
 simpa [List.getElem?_take, List.getElem?_drop] using this
theorem spot_none {a : Addr} {u : Value} (h : w.cell? a = some u) : a = ⟨a.block, a.off, none⟩ := by
 obtain ⟨b, o, s⟩ := a
 cases s with
 | none => rfl
 | some s =>
  unfold World.cell? at h
  cases ho : w.heap[b]? with
  | none => simp [ho] at h
  | some x => cases x <;> simp [ho] at h
theorem flat_len {α β : Type} (f : α → List β) (k : Nat) (hf : ∀ x, (f x).length = k) : ∀ l : List α, (l.flatMap f).length = l.length * k
 | [] => by simp
 | x :: l => by rw [List.flatMap_cons, List.length_append, flat_len f k hf l, hf, List.length_cons, Nat.succ_mul]; omega
/-- A slice, out of what its elements read as. -/
theorem row_of {α : Type} [Inhabited α] {t e : TypeId} (hu : Tryz.prog.underlying t = some (.slice e)) (f : α → List Value) (k : Nat) (hk : Tryz.prog.cellsOf e = k) (k0 : 0 < k) (hf : ∀ x, (f x).length = k) (Q : α → Prop)
  (hof : ∀ (n : Nat) (cs : List Value) (y : DataW H × List MemPlace), DataW.trod enc Tryz.prog w base spare held n e cs = some y → ∃ x, cs = f x ∧ Q x)
  {n : Nat} {c : Value} {y : DataW H × List MemPlace} (h : DataW.trod enc Tryz.prog w base spare held n t [c] = some y) : ∃ xs : List α, RowOf f w c xs ∧ ∀ x, x ∈ xs → Q x := by
 rcases open_slice hu h with ⟨hc, _⟩ | ⟨a, len, cap, m, kk, D, Pl, hc, _, hl, hm, hmm, _, hi⟩
 ·simp only [List.cons.injEq, and_true] at hc
  subst hc
  exact ⟨[], RowOf.nil f w, fun x hx => by simp at hx⟩
 ·simp only [List.cons.injEq, and_true] at hc
  subst hc
  have hle : len ≤ m := by rw [hmm]; split <;> omega
  have key : ∀ i, i < len → ∃ x : α, w.cells? base (a.add (i * k)) k = some (f x) ∧ Q x := fun i hlt => by
   obtain ⟨cs, h1, h2⟩ := hi i (by omega)
   rw [hk] at h1
   obtain ⟨x, rfl, hx⟩ := hof _ _ _ h2
   exact ⟨x, h1, hx⟩
  obtain ⟨F, hF⟩ := choose_lt key
  refine ⟨(List.range len).map F, ⟨some a, cap, by simp, by simpa using hl, hm, (fun h => by cases h), fun j u hu => ?_⟩, fun x hx => ?_⟩
  ·have hj : j < len * k := by
    have h1 := (List.getElem?_eq_some_iff.1 hu).1
    rw [flat_len f k hf] at h1
    simpa using h1
   have hq : j / k < len := Nat.div_lt_of_lt_mul (by rw [Nat.mul_comm]; exact hj)
   have hr : j % k < k := Nat.mod_lt _ k0
   have hjj : j = j / k * k + j % k := by rw [Nat.mul_comm]; exact (Nat.div_add_mod j k).symm
   rw [hjj, flatMap_at f k hf _ (j / k) (j % k) (F (j / k)) (by simp [hq]) hr] at hu
   obtain ⟨_, _, hat⟩ := World.cells?_some (hF (j / k) hq).1
   have hcell := (hat (j % k) hr).trans hu
   rw [Go.Deep.add_add, ← hjj] at hcell
   have ha : a = ⟨a.block, a.off, none⟩ := by
    obtain ⟨_, _, hat0⟩ := World.cells?_some (hF 0 (Nat.lt_of_le_of_lt (Nat.zero_le _) hq)).1
    have h0 := hat0 0 k0
    rw [Go.Deep.add_add] at h0
    have hl0 : 0 < (f (F 0)).length := by rw [hf]; exact k0
    rw [List.getElem?_eq_getElem hl0] at h0
    have h0' : w.cell? a = some (f (F 0))[0] := by simpa [Addr.add] using h0
    exact spot_none h0'
   refine ⟨a.block, a.off, by rw [← ha], ?_⟩
   rw [ha] at hcell
   unfold Addr.add at hcell
   by_cases h0 : j = 0
   ·simpa [h0] using hcell
   ·simpa [h0] using hcell
  ·obtain ⟨i, hi', rfl⟩ := List.mem_map.1 hx
   exact (hF i (List.mem_range.1 hi')).2
theorem flat_intsw : ∀ xs : List Int, xs.flatMap (fun x : Int => [Value.int .i64 x]) = xs.map (.int .i64)
 | [] => rfl
 | x :: l => by rw [List.flatMap_cons, flat_intsw l]; rfl
theorem ints_cells {n : Nat} {c : Value} {y : DataW H × List MemPlace} (h : DataW.trod enc Tryz.prog w base spare held n 47 [c] = some y) : ∃ xs, IntsAt w c xs := by
 have : Inhabited Int := ⟨0⟩
 obtain ⟨xs, hx, _⟩ := row_of Tryz.underlying47 (fun x : Int => [.int .i64 x]) 1 cellsInt (by omega) (fun _ => rfl) (fun _ => True) (fun n cs y h => by
  obtain ⟨z, hz, _⟩ := DataW.trod_int Tryz.underlying3 h
  exact ⟨z, hz, trivial⟩) h
 refine ⟨xs, ?_⟩
 unfold RowOf at hx
 rw [flat_intsw] at hx; exact hx
set_option maxRecDepth 100000 in
theorem ints_of {r : Reach} {b0 : Nat} {v : Value} {d : DataW H} {p : List MemPlace} (hv : Value.okWide Tryz.prog w r b0 47 v) (h : DataW.Trod enc Tryz.prog w base spare held 47 v d p) : ∃ xs, IntsAt w v xs := by
 obtain ⟨n, hn⟩ := h
 obtain ⟨a, k, m, rfl⟩ := okWide_slice Tryz.underlying47 hv
 exact ints_cells hn
theorem good_of {n : Nat} {cs : List Value} {y : DataW H × List MemPlace} (h : DataW.trod enc Tryz.prog w base spare held n 124 cs = some y) : ∃ x : Int, cs = [.int .i64 x] := by
 obtain ⟨ys, m, _, _, hl, hn, hf⟩ := DataW.trod_struct Tryz.underlying124 h
 rw [cellsGood] at hl
 obtain ⟨y0, rfl⟩ := list1 (l := ys) (by simpa using hn)
 obtain ⟨c0, rfl⟩ := list1 hl
 obtain ⟨z0, h0⟩ := int_at (hf 0 _ rfl)
 refine ⟨z0, ?_⟩
 simp at h0
 subst h0
 rfl
theorem goods_cells {n : Nat} {c : Value} {y : DataW H × List MemPlace} (h : DataW.trod enc Tryz.prog w base spare held n 22 [c] = some y) : ∃ xs, IntsAt w c xs := by
 have : Inhabited Int := ⟨0⟩
 obtain ⟨xs, hx, _⟩ := row_of Tryz.underlying22 (fun x : Int => [.int .i64 x]) 1 cellsGood (by omega) (fun _ => rfl) (fun _ => True) (fun n cs y h => by
  obtain ⟨z, hz⟩ := good_of h
  exact ⟨z, hz, trivial⟩) h
 refine ⟨xs, ?_⟩
 unfold RowOf at hx
 rw [flat_intsw] at hx; exact hx
theorem entry_of {n : Nat} {cs : List Value} {y : DataW H × List MemPlace} (h : DataW.trod enc Tryz.prog w base spare held n 126 cs = some y) : ∃ x : Int × Int × Int, cs = entryC x := by
 obtain ⟨ys, m, _, _, hl, hn, hf⟩ := DataW.trod_struct Tryz.underlying126 h
 rw [cellsEntry] at hl
 obtain ⟨y0, y1, y2, rfl⟩ := list3 (l := ys) (by simpa using hn)
 obtain ⟨c0, c1, c2, rfl⟩ := list3 hl
 obtain ⟨z0, h0⟩ := int_at (hf 0 _ rfl)
 obtain ⟨z1, h1⟩ := int_at (hf 1 _ rfl)
 obtain ⟨z2, h2⟩ := int_at (hf 2 _ rfl)
 refine ⟨(z0, z1, z2), ?_⟩
 simp at h0 h1 h2
 subst h0 h1 h2
 rfl
theorem entries_cells {n : Nat} {c : Value} {y : DataW H × List MemPlace} (h : DataW.trod enc Tryz.prog w base spare held n 23 [c] = some y) : ∃ xs, RowOf entryC w c xs := by
 have : Inhabited (Int × Int × Int) := ⟨(0, 0, 0)⟩
 obtain ⟨xs, hx, _⟩ := row_of Tryz.underlying23 entryC 3 cellsEntry (by omega) (fun _ => rfl) (fun _ => True) (fun n cs y h => by obtain ⟨x, hx⟩ := entry_of h; exact ⟨x, hx, trivial⟩) h
 exact ⟨xs, hx⟩
theorem rows_cells {n : Nat} {c : Value} {y : DataW H × List MemPlace} (h : DataW.trod enc Tryz.prog w base spare held n 33 [c] = some y) : ∃ xss, IntRowsAt w c xss := by
 have : Inhabited (Value × List Int) := ⟨(undef, [])⟩
 obtain ⟨xs, hx, hq⟩ := row_of Tryz.underlying33 (fun x : Value × List Int => [x.1]) 1 cellsInts (by omega) (fun _ => rfl) (fun x => IntsAt w x.1 x.2) (fun n cs y h => by
  have hl : cs.length = 1 := by
   rcases open_slice Tryz.underlying47 h with ⟨hc, _⟩ | ⟨a, len, cap, m, kk, D, Pl, hc, _⟩
   ·rw [hc]; rfl
   ·rw [hc]; rfl
  match cs, hl with
  | [x], _ =>
   obtain ⟨xs, hx⟩ := ints_cells h
   exact ⟨(x, xs), rfl, hx⟩) h
 exact ⟨_, xs, rfl, hx, hq⟩
set_option maxRecDepth 100000 in
theorem book_of {r : Reach} {b0 : Nat} {v : Value} {d : DataW H} {p : List MemPlace} (hv : Value.okWide Tryz.prog w r b0 25 v) (h : DataW.Trod enc Tryz.prog w base spare held 25 v d p) : ∃ b, BookAt w v b := by
 obtain ⟨cs, rfl, hsz⟩ := okWide_struct Tryz.underlying25 hv
 rw [cellsBook] at hsz
 obtain ⟨n, hn⟩ := h
 obtain ⟨ys, m, _, _, hl, hyn, hf⟩ := DataW.trod_struct Tryz.underlying25 hn
 obtain ⟨l⟩ := cs
 obtain ⟨y0, y1, y2, y3, rfl⟩ := list4 (l := ys) (by simpa using hyn)
 obtain ⟨c0, c1, c2, c3, rfl⟩ := list4 (l := l) (by simpa using hsz)
 have h0 := hf 0 _ rfl
 obtain ⟨z1, h1⟩ := int_at (hf 1 _ rfl)
 obtain ⟨z2, h2⟩ := int_at (hf 2 _ rfl)
 have h3 := hf 3 _ rfl
 simp [Value.cells, cellsGoods, cellsEntries] at h0 h1 h2 h3
 obtain ⟨gs, hg⟩ := goods_cells h0
 obtain ⟨es, he⟩ := entries_cells h3
 subst h1 h2
 exact ⟨⟨gs, z1, z2, es⟩, _, _, rfl, hg, he⟩
set_option maxRecDepth 100000 in
theorem truth_of {r : Reach} {b0 : Nat} {v : Value} {d : DataW H} {p : List MemPlace} (hv : Value.okWide Tryz.prog w r b0 42 v) (h : DataW.Trod enc Tryz.prog w base spare held 42 v d p) : ∃ t, TruthAt w v t := by
 obtain ⟨cs, rfl, hsz⟩ := okWide_struct Tryz.underlying42 hv
 rw [cellsTruth] at hsz
 obtain ⟨n, hn⟩ := h
 obtain ⟨ys, m, _, _, hl, hyn, hf⟩ := DataW.trod_struct Tryz.underlying42 hn
 obtain ⟨l⟩ := cs
 obtain ⟨y0, rfl⟩ := list1 (l := ys) (by simpa using hyn)
 obtain ⟨c0, rfl⟩ := list1 (l := l) (by simpa using hsz)
 have h0 := hf 0 _ rfl
 simp [Value.cells, cellsRows] at h0
 obtain ⟨xss, hx⟩ := rows_cells h0
 exact ⟨xss, _, rfl, hx⟩
end
end Go.Proofs.YtoohhefegfpipaaGreatDoor

/- What every law's last text shares: the condition behind the call, the witness's world. -/
namespace Go.Proofs.YtoohhefegfpipaaGreatDoor
open Go.ChangeShapes Go.WideShapes Go.ChangeAt Go.RowKit
section
variable {H : Type} {enc : TypeId × Value → H}
def Reads (ts : List TypeId) : Prop := ∀ t, t ∈ ts → Tryz.prog.readableRec t = true ∧ t < Tryz.prog.types.size
theorem trodAll_stays {W W' : World} (hx : Ext W W') : ∀ {ts : List TypeId} {vs : List Value} {ds : List (DataW H)} {ps : List MemPlace}, Reads ts → DataW.TrodAll enc Tryz.prog W 0 (fun _ => true) true ts vs ds ps →
  (∀ x, x ∈ ps → x.block < W.heap.size) → DataW.TrodAll enc Tryz.prog W' 0 (fun b => decide (b < W.heap.size)) true ts vs ds ps
 | [], _, _, _, _, h, _ => by
  obtain ⟨rfl, rfl, rfl⟩ := trodAll_nil h
  exact trodAll_mk0
 | t :: ts, _, _, _, hr, h, hlt => by
  obtain ⟨v, vs1, d, ds1, a, b, rfl, rfl, rfl, h1, h2⟩ := trodAll_cons h
  obtain ⟨hq, hs⟩ := hr t (List.mem_cons_self ..)
  exact trodAll_cons_mk (Below.trod laidOut hq hs h1 hx (fun x hx => hlt x (List.mem_append_left _ hx)))
   (trodAll_stays hx (fun u hu => hr u (List.mem_cons_of_mem _ hu)) h2 (fun x hx => hlt x (List.mem_append_right _ hx)))
/-- Behind a call that answered true and left old memory alone. -/
theorem post_true {f : Func} {s : ChangeSpec} {W W' : World} {args : Array Value} {ds gs : List (DataW H)} {before : List MemPlace} (hv : s.vars = []) (hr : f.resultTypes = #[4]) (hp : Reads f.params.toList)
  (hW : DataW.Whole enc Tryz.prog f.params.toList s.vars false W args.toList ds gs before) (hfn : (s.fn H (ds ++ gs)).results = [.lit (.bool true)] ∧ (s.fn H (ds ++ gs)).args = ds ∧ (s.fn H (ds ++ gs)).vars = []) (hx : Ext W W') :
  s.post enc Tryz.prog f false true false false W args (.bool true) W' := by
 obtain ⟨f1, f2, f3⟩ := hfn
 have hlt := fun x hx => hW.lt x hx
 have hW' := hW
 obtain ⟨p, q, hA, hV, rfl, _, _⟩ := hW
 rw [hv] at hV
 obtain ⟨rfl, rfl⟩ := trodVars_none hV
 refine ⟨ds, [], p ++ [], [], p, [], hW', ?_, ?_, ?_, ?_, fun h => by cases h⟩
 ·rw [f1, hr]
  exact trodAll_cons_mk (shut_bool Tryz.underlying4 _) trodAll_mk0
 ·rw [f2]
  exact trodAll_stays hx hp hA (fun x hx => hlt x (List.mem_append_left _ hx))
 ·rw [f3, hv]
  rfl
 ·refine World.keptBut_mono (fun x hx => ⟨hx, Or.inr (Or.inl (by simpa using hx))⟩) (Below.frame hx _)
end
/-! ### The witness's world: the settled one, the tables holding what the row lists -/
def cellOf : DataW Unit → Value
 | .lit (.int k z) => .int k z
 | _ => .bool false
def cellsOfTab : DataW Unit → Array Value
 | .agg xs => (xs.map cellOf).toArray
 | _ => #[]
def lay (d : DataW Unit) : Obj → Obj
 | .cells _ t frozen => .cells (cellsOfTab d) t frozen
 | o => o
/-! Tables whose elements are structs: their cells one after another. -/
def cellsOfT : DataW Unit → List Value
 | .lit (.int k z) => [.int k z]
 | .agg xs => xs.map cellOf
 | _ => []
def layT (d : DataW Unit) : Obj → Obj
 | .cells _ t frozen => .cells (match d with | .agg xs => (xs.flatMap cellsOfT).toArray | _ => #[]) t frozen
 | o => o
noncomputable def laidWorld (os : Os) : World :=
 { World.holding Tryz.prog os ⟨#[], #[], []⟩ with heap := (((((World.holding Tryz.prog os ⟨#[], #[], []⟩).heap.modify 0 (lay Rows.laid_internal_strconv_uint64pow10)).modify 4 (lay Rows.laid_math_bits_deBruijn32tab)).modify 5 (lay Rows.laid_math_bits_deBruijn64tab)).modify 3 (layT Rows.laid_unicode_utf8_acceptRanges)).modify 2 (layT Rows.laid_unicode_utf8_first) }
theorem laid_met (os : Os) (args : Array Value) : laidMet Tryz.prog Rows.orderTruthsRow.laid ((laidWorld os).forCall (fun _ _ => 0) ⟨#[], args, []⟩).memory :=
 laidMet_of_run' 8 (by kernel_rfl) (by kernel_rfl)
/-- The digits' table, out of the row's list. -/
theorem tab_of {l : List (String × DataW Unit)} {w : World} (hl : l.filter (fun x => x.1 == "internal/strconv.uint64pow10") = [("internal/strconv.uint64pow10", Lib.tabData .u64 Lib.pow10Tab)]) (h : laidMetH Tryz.prog l w) : TabOk w := by
 have h1 := laidMetH.filter (fun x => x.1 == "internal/strconv.uint64pow10") h
 rw [hl] at h1
 exact Lib.tabIs_of_head (rest := []) (g := 0) (t := 272) (e := 249) (by kernel_rfl) (by kernel_rfl) Tryz.underlying272 Tryz.underlying249 (by kernel_rfl) (by kernel_rfl) h1
theorem tab_rows {W : World} (h : laidMetH Tryz.prog Rows.orderTruthsRow.laid W) : TabOk W := tab_of (by kernel_rfl) h
theorem own : ownKnob Tryz.prog.godebug = none := by kernel_rfl
def zero : Value := .int .i64 0
def zeroD {H : Type} : DataW H := .lit (.int .i64 0)
end Go.Proofs.YtoohhefegfpipaaGreatDoor
