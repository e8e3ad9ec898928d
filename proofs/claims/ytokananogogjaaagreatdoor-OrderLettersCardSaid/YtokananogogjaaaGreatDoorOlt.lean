/- Buyers: isBuyer. -/
import Derived.Test.YtokananogogjaaaGreatDoorOm
namespace Go.Proofs.YtokananogogjaaaGreatDoor
open Go.RowKit
abbrev Letter := Int × Int × Int × Int
structure Buyer where
 editions : Int
 letters : List Letter
def letC (l : Letter) : List Value := [.int .i64 l.1, .int .i64 l.2.1, .int .i64 l.2.2.1, .int .i64 l.2.2.2]
def badLetter (b : Book) (l : Letter) : Bool := !isNumberB b l.1 || decide (l.2.1 < 1) || decide (l.2.2.1 < l.2.1) || decide (99 < l.2.2.1) || !inB l.2.2.2 0 1000
def isBuyerB (b : Book) (x : Buyer) : Bool := inB x.editions 1 (2 ^ b.editions.toNat - 1) && inB x.letters.length 1 4 && !(x.letters.any (badLetter b))
def BuyerAt (w : World) (v : Value) (x : Buyer) : Prop := ∃ lv, v = .agg #[.int .i64 x.editions, lv] ∧ RowOf letC w lv x.letters
theorem BuyerAt.ext {w w' : World} {v : Value} {x : Buyer} (h : BuyerAt w v x) (k : Ext w w') : BuyerAt w' v x := by
 obtain ⟨lv, h1, h2⟩ := h; exact ⟨lv, h1, h2.ext k⟩
theorem BuyerAt.open {w : World} {v : Value} {x : Buyer} (h : BuyerAt w v x) : ∃ la lc, v = .agg #[.int .i64 x.editions, .slice la x.letters.length lc] ∧ x.letters.length ≤ lc ∧ lc ≤ 9223372036854775807 ∧ RowOf letC w (.slice la x.letters.length lc) x.letters := by
 obtain ⟨lv, rfl, h2⟩ := h
 obtain ⟨a, c, rfl, h3, h4, _⟩ := RowAt.open h2
 exact ⟨a, c, rfl, h3, h4, h2⟩
set_option maxRecDepth 100000 in
theorem isBuyer1_any (l : Letter) (k : Nat) (ga ea : Option Addr) (gc en ec : Nat) (b : Book) (w : World) (hg : b.goods.length ≤ 9223372036854775807) (hb : BoxAt w k (.slice ga b.goods.length gc) b (.slice ea en ec)) :
 Calls Tryz.prog 84 #[.agg #[.int .i64 l.1, .int .i64 l.2.1, .int .i64 l.2.2.1, .int .i64 l.2.2.2], .pointer (some ⟨k, 0, none⟩)] w fun e w' => e = .returned (.bool (badLetter b l)) ∧ Ext w w' := by
 obtain ⟨W, hW⟩ : ∃ W, W = w.alloc (.cells #[.int .i64 l.1, .int .i64 l.2.1, .int .i64 l.2.2.1, .int .i64 l.2.2.2] 53) := ⟨_, rfl⟩
 have hx0 : Ext w W := by rw [hW]; exact (Ext.refl w).alloc _
 have HX0 := Lib.hid hx0
 have c0 : W.cell? ⟨w.heap.size, 0, none⟩ = some (.int .i64 l.1) := by rw [hW]; go_simp
 have c1 : W.cell? ⟨w.heap.size, 1, none⟩ = some (.int .i64 l.2.1) := by rw [hW]; go_simp
 have c2 : W.cell? ⟨w.heap.size, 2, none⟩ = some (.int .i64 l.2.2.1) := by rw [hW]; go_simp
 have c3 : W.cell? ⟨w.heap.size, 3, none⟩ = some (.int .i64 l.2.2.2) := by rw [hW]; go_simp
 have HF := Lib.hid (fun W1 (h : Ext W W1) => (⟨h.cell c0, h.cell c1, h.cell c2, h.cell c3, hb.ext (hx0.trans h)⟩ : _ ∧ _ ∧ _ ∧ _ ∧ _))
 have HN := Lib.hid (fun W1 => isNumber_any ga ea gc en ec b l.1 W1 hg)
 have HI := Lib.hid (fun W1 => in_any l.2.2.2 0 1000 W1)
 have HR : ∀ r, badLetter b l = r → Hid (badLetter b l = r) := fun r h => h
 clear hb c0 c1 c2 c3 hx0 hg
 cases i1 : isNumberB b l.1 with
 | false =>
  rw [i1] at HN
  have HB := Lib.hid (HR true (by unfold badLetter; rw [i1]; rfl))
  clear HR
  clear i1
  go_enter Tryz.func84, Tryz.ntmps84
  go_upto_region 1 with fail
  rw [← hW]
  clear hW
  have hq := Ext.refl W
  obtain ⟨d0, d1, d2, d3, b0, b1, b2, b3⟩ := HF.out _ hq
  go_wp2_with (first | (go_at_call 47; refine (HN.out _).mono ?_; rintro e w1 ⟨rfl, hx1⟩; replace hq := hq.trans hx1; clear hx1 d0 d1 d2 d3 b0 b1 b2 b3; obtain ⟨d0, d1, d2, d3, b0, b1, b2, b3⟩ := HF.out _ hq) | (go_at_call 61; refine (HI.out _).mono ?_; rintro e w1 ⟨rfl, rfl⟩))
  go_ret
  exact ⟨by rw [HB.out] <;> rfl, HX0.out.trans hq⟩
   | true =>
  rw [i1] at HN
  cases i2 : decide (l.2.1 < 1) with
  | true =>
   have HB := Lib.hid (HR true (by unfold badLetter; rw [i1, i2]; rfl))
   clear HR
   clear i1
   go_enter Tryz.func84, Tryz.ntmps84
   go_upto_region 1 with fail
   rw [← hW]
   clear hW
   have hq := Ext.refl W
   obtain ⟨d0, d1, d2, d3, b0, b1, b2, b3⟩ := HF.out _ hq
   go_wp2_with (first | (go_at_call 47; refine (HN.out _).mono ?_; rintro e w1 ⟨rfl, hx1⟩; replace hq := hq.trans hx1; clear hx1 d0 d1 d2 d3 b0 b1 b2 b3; obtain ⟨d0, d1, d2, d3, b0, b1, b2, b3⟩ := HF.out _ hq) | (go_at_call 61; refine (HI.out _).mono ?_; rintro e w1 ⟨rfl, rfl⟩))
   go_ret
   exact ⟨by rw [HB.out] <;> rfl, HX0.out.trans hq⟩
  | false =>
   cases i3 : decide (l.2.2.1 < l.2.1) with
   | true =>
    have HB := Lib.hid (HR true (by unfold badLetter; rw [i1, i2, i3]; rfl))
    clear HR
    clear i1
    go_enter Tryz.func84, Tryz.ntmps84
    go_upto_region 1 with fail
    rw [← hW]
    clear hW
    have hq := Ext.refl W
    obtain ⟨d0, d1, d2, d3, b0, b1, b2, b3⟩ := HF.out _ hq
    go_wp2_with (first | (go_at_call 47; refine (HN.out _).mono ?_; rintro e w1 ⟨rfl, hx1⟩; replace hq := hq.trans hx1; clear hx1 d0 d1 d2 d3 b0 b1 b2 b3; obtain ⟨d0, d1, d2, d3, b0, b1, b2, b3⟩ := HF.out _ hq) | (go_at_call 61; refine (HI.out _).mono ?_; rintro e w1 ⟨rfl, rfl⟩))
    go_ret
    exact ⟨by rw [HB.out] <;> rfl, HX0.out.trans hq⟩
   | false =>
    cases i4 : decide (99 < l.2.2.1) with
    | true =>
     have HB := Lib.hid (HR true (by unfold badLetter; rw [i1, i2, i3, i4]; rfl))
     clear HR
     clear i1
     go_enter Tryz.func84, Tryz.ntmps84
     go_upto_region 1 with fail
     rw [← hW]
     clear hW
     have hq := Ext.refl W
     obtain ⟨d0, d1, d2, d3, b0, b1, b2, b3⟩ := HF.out _ hq
     go_wp2_with (first | (go_at_call 47; refine (HN.out _).mono ?_; rintro e w1 ⟨rfl, hx1⟩; replace hq := hq.trans hx1; clear hx1 d0 d1 d2 d3 b0 b1 b2 b3; obtain ⟨d0, d1, d2, d3, b0, b1, b2, b3⟩ := HF.out _ hq) | (go_at_call 61; refine (HI.out _).mono ?_; rintro e w1 ⟨rfl, rfl⟩))
     go_ret
     exact ⟨by rw [HB.out] <;> rfl, HX0.out.trans hq⟩
    | false =>
     cases i5 : inB l.2.2.2 0 1000 with
     | false =>
      rw [i5] at HI
      have HB := Lib.hid (HR true (by unfold badLetter; rw [i1, i2, i3, i4, i5]; rfl))
      clear HR
      clear i1 i5
      go_enter Tryz.func84, Tryz.ntmps84
      go_upto_region 1 with fail
      rw [← hW]
      clear hW
      have hq := Ext.refl W
      obtain ⟨d0, d1, d2, d3, b0, b1, b2, b3⟩ := HF.out _ hq
      go_wp2_with (first | (go_at_call 47; refine (HN.out _).mono ?_; rintro e w1 ⟨rfl, hx1⟩; replace hq := hq.trans hx1; clear hx1 d0 d1 d2 d3 b0 b1 b2 b3; obtain ⟨d0, d1, d2, d3, b0, b1, b2, b3⟩ := HF.out _ hq) | (go_at_call 61; refine (HI.out _).mono ?_; rintro e w1 ⟨rfl, rfl⟩))
      go_ret
      exact ⟨by rw [HB.out] <;> rfl, HX0.out.trans hq⟩
     | true =>
      rw [i5] at HI
      have HB := Lib.hid (HR false (by unfold badLetter; rw [i1, i2, i3, i4, i5]; rfl))
      clear HR
      clear i1 i5
      go_enter Tryz.func84, Tryz.ntmps84
      go_upto_region 1 with fail
      rw [← hW]
      clear hW
      have hq := Ext.refl W
      obtain ⟨d0, d1, d2, d3, b0, b1, b2, b3⟩ := HF.out _ hq
      go_wp2_with (first | (go_at_call 47; refine (HN.out _).mono ?_; rintro e w1 ⟨rfl, hx1⟩; replace hq := hq.trans hx1; clear hx1 d0 d1 d2 d3 b0 b1 b2 b3; obtain ⟨d0, d1, d2, d3, b0, b1, b2, b3⟩ := HF.out _ hq) | (go_at_call 61; refine (HI.out _).mono ?_; rintro e w1 ⟨rfl, rfl⟩))
      go_ret
      exact ⟨by rw [HB.out] <;> rfl, HX0.out.trans hq⟩
theorem enters_isBuyer1 : ∀ args w, (callFunc 84 args).run Tryz.prog w = .ok (.enter 84 args) w := enters_of Tryz.func84 (by kernel_rfl) rfl
theorem contains_isBuyer1 (v : Value) (k : Nat) (ga ea : Option Addr) (gc en ec : Nat) (b : Book) (l : List Letter) (w : World) (hv : RowOf letC w v l) (hg : b.goods.length ≤ 9223372036854775807) (hb : BoxAt w k (.slice ga b.goods.length gc) b (.slice ea en ec)) :
  Calls Tryz.prog 83 #[v, .func (.func 84) #[] #[.pointer (some ⟨k, 0, none⟩)]] w fun e w' => e = .returned (.bool (l.any (badLetter b))) ∧ Ext w w' :=
 containsFuncL (f := letC) (fun x => .int .i64 x.1) (fun x => .int .i64 x.2.1) (fun x => .int .i64 x.2.2.1) (fun x => .int .i64 x.2.2.2) (fun _ => rfl) v _ _ (badLetter b) l w hv (fun x _ w1 h1 => isBuyer1_any x k ga ea gc en ec b w1 hg (hb.ext h1)) enters_isBuyer1
set_option maxRecDepth 100000 in
set_option maxHeartbeats 1000000 in
theorem isBuyer_any (v xv : Value) (b : Book) (x : Buyer) (w : World) (hB : BookB b) (hb : BookAt w v b) (hx : BuyerAt w xv x) :
 Calls Tryz.prog 48 #[v, xv] w fun e w' => e = .returned (.bool (isBuyerB b x)) ∧ Ext w w' := by
 have e1 := hB.e1
 have e3 := hB.e3
 obtain ⟨ga, gc, ea, ec, rfl, hgl, hel⟩ := hb.open
 obtain ⟨la, lc, rfl, hl1, hl2, hlr⟩ := hx.open
 obtain ⟨ed, hed⟩ : ∃ ed : Nat, b.editions = ed := ⟨b.editions.toNat, by omega⟩
 obtain ⟨WB, hWB⟩ : ∃ WB, WB = (w.alloc (bookBox (.slice ga b.goods.length gc) b (.slice ea b.entries.length ec))).alloc (.cells #[.int .i64 x.editions, .slice la x.letters.length lc] 28) := ⟨_, rfl⟩
 have hx0 : Ext w WB := by rw [hWB]; exact ((Ext.refl w).alloc _).alloc _
 have HX0 := Lib.hid hx0
 have hbox : BoxAt WB w.heap.size (.slice ga b.goods.length gc) b (.slice ea b.entries.length ec) := by rw [hWB]; exact ⟨by go_simp, by go_simp, by go_simp, by go_simp⟩
 have HCO := Lib.hid (fun W1 (h : Ext WB W1) => contains_isBuyer1 (.slice la x.letters.length lc) w.heap.size ga ea gc b.entries.length ec b x.letters W1 (hlr.ext (hx0.trans h)) hgl (hbox.ext h))
 have d0 : WB.cell? ⟨w.heap.size + 1, 0, none⟩ = some (.int .i64 x.editions) := by rw [hWB]; go_simp
 have d1 : WB.cell? ⟨w.heap.size + 1, 1, none⟩ = some (.slice la x.letters.length lc) := by rw [hWB]; go_simp
 obtain ⟨b0, b1, b2, b3⟩ := hbox
 rw [hed] at b1
 have HF := Lib.hid (fun W1 (h : Ext WB W1) => (⟨h.cell d0, h.cell d1, h.cell b0, h.cell b1, h.cell b2, h.cell b3⟩ : _ ∧ _ ∧ _ ∧ _ ∧ _ ∧ _))
 have HI1 := Lib.hid (fun W1 => in_any x.editions 1 (2 ^ ed - 1) W1)
 have HI2 := Lib.hid (fun W1 => in_any (x.letters.length : Int) 1 4 W1)
 have HR : ∀ r, isBuyerB b x = r → Hid (isBuyerB b x = r) := fun r h => h
 have HED : Hid (b.editions.toNat = ed) := by unfold Hid; omega
 have hed3 : ed = 1 ∨ ed = 2 ∨ ed = 3 := by omega
 have W1 : wrap64 ((2 : Int) ^ ed) = 2 ^ ed := by rcases hed3 with rfl | rfl | rfl <;> kernel_rfl
 have W2 : wrap64 ((2 : Int) ^ ed - 1) = 2 ^ ed - 1 := by rcases hed3 with rfl | rfl | rfl <;> kernel_rfl
 have hed0 : (ed : Int) < 64 := by omega
 have hed4 : ¬ (ed : Int) < 0 := by omega
 clear hb hx hlr d0 d1 b0 b1 b2 b3 hx0 hgl hel hed e1 e3 hB
 cases i1 : inB x.editions 1 (2 ^ ed - 1) with
 | false =>
  have HB := Lib.hid (HR false (by unfold isBuyerB; rw [HED.out, i1]; rfl))
  rw [i1] at HI1
  clear i1 HR
  go_enter Tryz.func48, Tryz.ntmps48
  go_upto_region 1 with fail
  unfold bookBox at hWB
  rw [← hWB]
  clear hWB
  refine region_reads (C := fun W => Ext WB W) (by kernel_rfl) (by kernel_rfl) ((Ext.refl WB).drew) ?_
  repeat (first | go_big_quiet_skip | (go_big_quiet_want; go_big_quiet_op; first | go_big_quiet_on | (refine ⟨_, fun W hW => rfl, ?_⟩; go_big_quiet_on)) | (go_big_quiet_want; refine ⟨?_, fun W hW => ?_, ?_⟩; rotate_left; (· (obtain ⟨d0, d1, d2, d3, b0, b1⟩ := HF.out W hW); go_simp; (first | with_reducible rfl | (go_at_call 61; with_reducible refine (HI1.out W).mono ?_; rintro e w' ⟨rfl, rfl⟩; constructor; with_reducible rfl; exact hW))); (try simp only [Act.put, yA, yB, yC]); go_big_quiet_on))
  refine wpQuiet_nil ?_
  intro wq hq
  go_wp2
  go_ret
  exact ⟨by rw [HB.out] <;> rfl, HX0.out.trans hq⟩
 | true =>
  rw [i1] at HI1
  cases i2 : inB (x.letters.length : Int) 1 4 with
  | false =>
    have HB := Lib.hid (HR false (by unfold isBuyerB; rw [HED.out, i1, i2]; rfl))
    rw [i2] at HI2
    clear i1 i2 HR
    go_enter Tryz.func48, Tryz.ntmps48
    go_upto_region 1 with fail
    unfold bookBox at hWB
    rw [← hWB]
    clear hWB
    refine region_reads (C := fun W => Ext WB W) (by kernel_rfl) (by kernel_rfl) ((Ext.refl WB).drew) ?_
    repeat (first | go_big_quiet_skip | (go_big_quiet_want; go_big_quiet_op; first | go_big_quiet_on | (refine ⟨_, fun W hW => rfl, ?_⟩; go_big_quiet_on)) | (go_big_quiet_want; refine ⟨?_, fun W hW => ?_, ?_⟩; rotate_left; (· (obtain ⟨d0, d1, d2, d3, b0, b1⟩ := HF.out W hW); go_simp; (first | with_reducible rfl | (go_at_call 61; with_reducible refine (HI1.out W).mono ?_; rintro e w' ⟨rfl, rfl⟩; constructor; with_reducible rfl; exact hW) | (go_at_call 61; with_reducible refine (HI2.out W).mono ?_; rintro e w' ⟨rfl, rfl⟩; constructor; with_reducible rfl; exact hW))); (try simp only [Act.put, yA, yB, yC]); go_big_quiet_on))
    refine wpQuiet_nil ?_
    intro wq hq
    go_wp2
    go_ret
    exact ⟨by rw [HB.out] <;> rfl, HX0.out.trans hq⟩
  | true =>
    have HB := Lib.hid (HR (!(x.letters.any (badLetter b))) (by unfold isBuyerB; rw [HED.out, i1, i2]; rfl))
    rw [i2] at HI2
    clear i1 i2 HR
    go_enter Tryz.func48, Tryz.ntmps48
    go_upto_region 1 with fail
    unfold bookBox at hWB
    rw [← hWB]
    clear hWB
    refine region_reads (C := fun W => Ext WB W) (by kernel_rfl) (by kernel_rfl) ((Ext.refl WB).drew) ?_
    repeat (first | go_big_quiet_skip | (go_big_quiet_want; go_big_quiet_op; first | go_big_quiet_on | (refine ⟨_, fun W hW => rfl, ?_⟩; go_big_quiet_on)) | (go_big_quiet_want; refine ⟨?_, fun W hW => ?_, ?_⟩; rotate_left; (· (obtain ⟨d0, d1, d2, d3, b0, b1⟩ := HF.out W hW); go_simp; (first | with_reducible rfl | (go_at_call 61; with_reducible refine (HI1.out W).mono ?_; rintro e w' ⟨rfl, rfl⟩; constructor; with_reducible rfl; exact hW) | (go_at_call 61; with_reducible refine (HI2.out W).mono ?_; rintro e w' ⟨rfl, rfl⟩; constructor; with_reducible rfl; exact hW) | (go_at_call 83; refine (HCO.out W hW).mono ?_; rintro e w' ⟨rfl, hx1⟩; constructor; with_reducible rfl; exact hW.trans hx1))); (try simp only [Act.put, yA, yB, yC]); go_big_quiet_on))
    refine wpQuiet_nil ?_
    intro wq hq
    go_wp2
    go_ret
    exact ⟨by rw [HB.out] <;> rfl, HX0.out.trans hq⟩
end Go.Proofs.YtokananogogjaaaGreatDoor

/- The letters that are not true. -/
namespace Go.Proofs.YtokananogogjaaaGreatDoor
open Go.RowKit
def offB (b : Book) (l : List Int) (y : Letter) : Bool := !(inB (b.goods.getD (l.getD y.1.toNat 0).toNat 0) y.2.1 y.2.2.1)
def wrongTo (b : Book) (x : Buyer) (l : List Int) (k : Nat) : List Int := (numsOf k).filter fun i => offB b l (x.letters.getD i.toNat (0, 0, 0, 0))
def wrongB (b : Book) (x : Buyer) (l : List Int) : List Int := wrongTo b x l x.letters.length
theorem wrongTo_len (b : Book) (x : Buyer) (l : List Int) (k : Nat) : (wrongTo b x l k).length ≤ k := Nat.le_trans (List.length_filter_le _ _) (by rw [numsOf_length]; exact Nat.le_refl _)
theorem wrongTo_zero (b : Book) (x : Buyer) (l : List Int) : wrongTo b x l 0 = [] := by simp [wrongTo, numsOf]
theorem wrongTo_succ {b : Book} {x : Buyer} {k : Nat} {y : Letter} (l : List Int) (h : x.letters[k]? = some y) : wrongTo b x l (k + 1) = wrongTo b x l k ++ (if offB b l y then [(k : Int)] else []) := by
 have e : x.letters.getD k (0, 0, 0, 0) = y := by rw [List.getD_eq_getElem?_getD, h]; rfl
 unfold wrongTo numsOf
 rw [List.range_succ, List.map_append, List.filter_append]
 congr 1
 simp only [List.map_cons, List.map_nil]
 have e2 : x.letters.getD (k : Int).toNat (0, 0, 0, 0) = y := by rw [Int.toNat_natCast]; exact e
 cases hb : offB b l y with
 | true => rw [if_pos rfl, List.filter_cons_of_pos (by rw [e2]; exact hb)]; rfl
 | false => rw [if_neg (by simp), List.filter_cons_of_neg (by rw [e2, hb]; simp)]; rfl
theorem good_letter {b : Book} {x : Buyer} (h : isBuyerB b x = true) {y : Letter} (hy : y ∈ x.letters) : 0 ≤ y.1 ∧ y.1 < b.goods.length ∧ 1 ≤ y.2.1 ∧ y.2.1 ≤ y.2.2.1 ∧ y.2.2.1 ≤ 99 ∧ 0 ≤ y.2.2.2 ∧ y.2.2.2 ≤ 1000 := by
 unfold isBuyerB at h
 simp only [Bool.and_eq_true, Bool.not_eq_true', List.any_eq_false] at h
 have h1 := h.2 y hy
 unfold badLetter isNumberB at h1
 simp only [Bool.or_eq_true, not_or, Bool.not_eq_true', Bool.not_eq_false, decide_eq_true_eq] at h1
 obtain ⟨⟨⟨⟨g1, g2⟩, g3⟩, g4⟩, g5⟩ := h1
 have k1 := inB_iff.1 g1
 have k2 := inB_iff.1 g5
 omega
theorem buyer_len {b : Book} {x : Buyer} (h : isBuyerB b x = true) : 1 ≤ x.letters.length ∧ x.letters.length ≤ 4 := by
 unfold isBuyerB at h
 simp only [Bool.and_eq_true] at h
 have := inB_iff.1 h.1.2
 omega
theorem within_any (n lo hi : Int) (w : World) : Calls Tryz.prog 87 #[.int .i64 n, .agg #[.int .i64 lo, .int .i64 hi]] w fun e w' => e = .returned (.bool (inB n lo hi)) ∧ Ext w w' := by
 go_enter Tryz.func87, Tryz.ntmps87
 go_wp2_with (go_at_call 61; refine (in_any _ _ _ _).mono ?_; rintro e w' ⟨rfl, rfl⟩)
 go_ret
 exact ⟨rfl, (Ext.refl w).alloc _⟩
theorem owns_place {W : World} {base : Nat} {e : TypeId} {size : Nat} {v : Value} {n : Nat} {xs : List Value} (h : W.ownsRow base e size v n xs) : ∀ a m c, v = .slice (some a) m c → base ≤ a.block ∧ a.block < W.heap.size := by
 rintro a m c rfl
 exact World.ownsRow.lt h a.block rfl
set_option maxRecDepth 100000 in
set_option maxHeartbeats 4000000 in
theorem wrong2_any (ga ea oa : Option Addr) (gc en ec on oc : Nat) (ed mo : Int) (xv mv : Value) (b : Book) (x : Buyer) (e : Int) (l : List Int) (w : World) (hg : IntsAt w (.slice ga b.goods.length gc) b.goods) (hx : BuyerAt w xv x) (hm : IntsAt w mv l) (hbu : isBuyerB b x = true) (hl : l ∈ permsB b) :
 Calls Tryz.prog 50 #[.agg #[.slice ga b.goods.length gc, .int .i64 ed, .int .i64 mo, .slice ea en ec, .slice oa on oc], xv, .agg #[.int .i64 e, mv]] w fun r w' => ∃ u, r = .returned u ∧ Ext w w' ∧ IntsAt w' u (wrongB b x l) ∧ ∀ a n c, u = .slice (some a) n c → w.heap.size + 3 ≤ a.block ∧ a.block < w'.heap.size := by
 obtain ⟨la, lc, rfl, hl1, hl2, hlr⟩ := hx.open
 obtain ⟨ma, mc, rfl, m1, m2, m3⟩ := hm.open
 obtain ⟨ga', gc', hve, g1, g2, g3⟩ := hg.open
 cases hve
 have hpp := perms_mem.1 hl
 have hbl := buyer_len hbu
 have HPP := Lib.hid hpp
 have HGL := Lib.hid (fun y hy => good_letter hbu (y := y) hy)
 obtain ⟨W, hW⟩ : ∃ W, W = ((w.alloc (.cells #[.slice ga b.goods.length gc, .int .i64 ed, .int .i64 mo, .slice ea en ec, .slice oa on oc] 95)).alloc (.cells #[.int .i64 x.editions, .slice la x.letters.length lc] 28)).alloc (.cells #[.int .i64 e, .slice ma l.length mc] 91) := ⟨_, rfl⟩
 have hx0 : Ext w W := by rw [hW]; exact (((Ext.refl w).alloc _).alloc _).alloc _
 have HZ0 := Lib.hid (show W.heap.size = w.heap.size + 3 by rw [hW]; simp)
 have c0 : W.cell? ⟨w.heap.size, 0, none⟩ = some (.slice ga b.goods.length gc) := by rw [hW]; go_simp
 have c1 : W.cell? ⟨w.heap.size + 1, 1, none⟩ = some (.slice la x.letters.length lc) := by rw [hW]; go_simp
 have c2 : W.cell? ⟨w.heap.size + 2, 1, none⟩ = some (.slice ma l.length mc) := by rw [hW]; go_simp
 have HF := Lib.hid (fun W1 (h : Ext W W1) => (⟨h.cell c0, h.cell c1, h.cell c2⟩ : _ ∧ _ ∧ _))
 obtain ⟨_, _, hve, _, _, l3⟩ := RowOf.open4 (f := letC) (fun _ => rfl) hlr
 cases hve
 have HL3 := Lib.hid l3
 have HM3 := Lib.hid m3
 have HG3 := Lib.hid g3
 have HX0 := Lib.hid hx0
 clear hx hm hg hlr l3 m3 g3 hx0 hl hpp hbu
 go_enter Tryz.func50, Tryz.ntmps50
 go_upto_region 1 with fail
 rw [← hW]
 clear hW
 go_wp2
 clear c0 c1 c2
 go_loopw [7, 13] (fun o j wr => ∃ k : Nat, k ≤ x.letters.length ∧ j = .int .i64 (k : Int) ∧ wr.ownsRow (w.heap.size + 3) 3 1 o (wrongTo b x l k).length ((wrongTo b x l k).map (.int .i64)) ∧ Ext W wr) (fun _ j _ => x.letters.length - (intOf j).toNat)
 case atStart => exact ⟨0, Nat.zero_le _, rfl, by rw [wrongTo_zero]; exact World.ownsRow_nil _ _ _ _, Ext.refl _⟩
 case round =>
  obtain ⟨k, hk, rfl, hown, hx⟩ := hrel
  by_cases hlt : k < x.letters.length
  ·obtain ⟨lb, lo, y, rfl, hyk, d0, d1, d2, d3⟩ := HL3.out k hlt
   have hgl := HGL.out y (List.mem_of_getElem? hyk.out)
   obtain ⟨N, hN⟩ : ∃ N : Nat, y.1 = N := ⟨y.1.toNat, by omega⟩
   have hNl : N < l.length := by have := HPP.out.1; omega
   obtain ⟨mb, mp, mx, rfl, hmx, mc4⟩ := HM3.out N hNl
   have hmr := HPP.out.2.2 mx (List.mem_of_getElem? hmx.out)
   obtain ⟨g, rfl⟩ : ∃ g : Nat, mx = g := ⟨mx.toNat, by omega⟩
   obtain ⟨gb, gp, gx, rfl, hgx, gc4⟩ := HG3.out g (by omega)
   have hoff : offB b l y = !(inB gx y.2.1 y.2.2.1) := by
    unfold offB
    rw [hN, Int.toNat_natCast, show l.getD N 0 = (g : Int) by rw [List.getD_eq_getElem?_getD, hmx.out]; rfl, Int.toNat_natCast, show b.goods.getD g 0 = gx by rw [List.getD_eq_getElem?_getD, hgx.out]; rfl]
   have hws := wrongTo_succ (b := b) l hyk.out
   rw [hoff] at hws
   rw [hN] at d0
   have h0 := HX0.out.trans hx
   have k0 := h0.cell d0
   have k1 := h0.cell d1
   have k2 := h0.cell d2
   have k3 := h0.cell d3
   have k4 := h0.cell mc4
   have k5 := h0.cell gc4
   have i1 : (0 : Int) ≤ (k : Int) := by omega
   have i2 : (k : Int) < (x.letters.length : Int) := by omega
   have n1 : (0 : Int) ≤ (N : Int) := by omega
   have n2 : (N : Int) < (l.length : Int) := by omega
   have s1 : (0 : Int) ≤ (g : Int) := by omega
   have s2 : (g : Int) < (b.goods.length : Int) := by omega
   have hbz : w.heap.size + 3 ≤ wr.heap.size := by have := hx.size; have := HZ0.out; omega
   obtain ⟨WP, hWP⟩ : ∃ WP, WP = wr.alloc (.cells #[.int .i64 (N : Int), .int .i64 y.2.1, .int .i64 y.2.2.1, .int .i64 y.2.2.2] 53) := ⟨_, rfl⟩
   have hxp : Ext wr WP := by rw [hWP]; exact (Ext.refl wr).alloc _
   have p0 : WP.cell? ⟨wr.heap.size, 0, none⟩ = some (.int .i64 (N : Int)) := by rw [hWP]; go_simp
   have p1 : WP.cell? ⟨wr.heap.size, 1, none⟩ = some (.int .i64 y.2.1) := by rw [hWP]; go_simp
   have p2 : WP.cell? ⟨wr.heap.size, 2, none⟩ = some (.int .i64 y.2.2.1) := by rw [hWP]; go_simp
   obtain ⟨c0, c1, c2⟩ := HF.out _ (hx.trans hxp)
   have k4' := hxp.cell k4
   have k5' := hxp.cell k5
   have HFZ := Lib.hid (fun W' (h : Ext WP W') => (⟨h.cell p0, h.cell p1, h.cell p2, h.cell c0, h.cell c2, h.cell k4', h.cell k5'⟩ : _ ∧ _ ∧ _ ∧ _ ∧ _ ∧ _ ∧ _))
   have HWI := Lib.hid (fun W' => within_any gx y.2.1 y.2.2.1 W')
   have hle := wrongTo_len b x l k
   have HSZ := Lib.hid (show (wrongTo b x l k).length + 1 ≤ maxLen ∧ ((wrongTo b x l k).length + 1) * 8 ≤ 140737488355328 by unfold maxLen; omega)
   obtain ⟨_, _, rfl, _⟩ := RowAt.open (RowAt.of_owns hown)
   have HOWN := Lib.hid hown
   have HX := Lib.hid hx
   have HXP := Lib.hid hxp
   obtain ⟨c0', c1', c2'⟩ := HF.out _ hx
   clear hown hx hxp h0 hyk hmx hgx hoff hgl d0 d1 d2 d3 mc4 gc4 p0 p1 p2 c0 c1 c2 k4 k5 k4' k5' hmr hN hle
   cases hb : inB gx y.2.1 y.2.2.1 with
   | true =>
    rw [hb] at HWI hws
    rw [if_neg (by simp), List.append_nil] at hws
    have HWS := Lib.hid hws
    clear hb hws
    go_upto_region 5 with fail
    rw [← hWP]
    clear hWP k0 k1 k2 k3 c0' c1' c2'
    refine region_reads (C := fun W => Ext WP W) (by kernel_rfl) (by kernel_rfl) ((Ext.refl WP).drew) ?_
    repeat (first | go_big_quiet_skip | (go_big_quiet_want; go_big_quiet_op; first | go_big_quiet_on | (refine ⟨_, fun W hW => rfl, ?_⟩; go_big_quiet_on)) | (go_big_quiet_want; refine ⟨?_, fun W hW => ?_, ?_⟩; rotate_left; (· (obtain ⟨p0, p1, p2, c0, c2, k4, k5⟩ := HFZ.out W hW); go_simp; (first | with_reducible rfl | (go_at_call 87; refine (HWI.out W).mono ?_; rintro e w' ⟨rfl, hx1⟩; constructor; with_reducible rfl; exact hW.trans hx1))); (try simp only [Act.put, yA, yB, yC]); go_big_quiet_on))
    refine wpQuiet_nil ?_
    intro wq hq
    go_wp2
    go_roundw
    case rel => exact ⟨k + 1, by omega, by go_num, by rw [HWS.out]; exact owns_ext HOWN.out (HXP.out.trans hq), HX.out.trans (HXP.out.trans hq)⟩
    case measure => simp [intOf]; omega
   | false =>
    rw [hb] at HWI hws
    rw [if_pos (by rfl)] at hws
    have HWS := Lib.hid hws
    clear hb hws
    go_upto_region 5 with fail
    rw [← hWP]
    clear hWP k0 k1 k2 k3 c0' c1' c2'
    refine region_reads (C := fun W => Ext WP W) (by kernel_rfl) (by kernel_rfl) ((Ext.refl WP).drew) ?_
    repeat (first | go_big_quiet_skip | (go_big_quiet_want; go_big_quiet_op; first | go_big_quiet_on | (refine ⟨_, fun W hW => rfl, ?_⟩; go_big_quiet_on)) | (go_big_quiet_want; refine ⟨?_, fun W hW => ?_, ?_⟩; rotate_left; (· (obtain ⟨p0, p1, p2, c0, c2, k4, k5⟩ := HFZ.out W hW); go_simp; (first | with_reducible rfl | (go_at_call 87; refine (HWI.out W).mono ?_; rintro e w' ⟨rfl, hx1⟩; constructor; with_reducible rfl; exact hW.trans hx1))); (try simp only [Act.put, yA, yB, yC]); go_big_quiet_on))
    refine wpQuiet_nil ?_
    intro wq hq
    go_wp2_with (at_builtin; refine wpList_push_at E_ints rfl _ _ rfl (w.heap.size + 3) rfl (owns_ext HOWN.out (HXP.out.trans hq)) rfl (by simp) rfl (by simp [Value.oneCell']) ?_ HSZ.out.1 HSZ.out.2 (Nat.le_trans hbz (HXP.out.trans hq).size); intro q cap w9 hown9 hext9 hg9 hloc9)
    go_roundw
    case rel => exact ⟨k + 1, by omega, by go_num, by rw [HWS.out, List.length_append, List.map_append]; exact hown9, hext9 _ (HX.out.trans (HXP.out.trans hq)) (Nat.le_of_eq HZ0.out)⟩
    case measure => simp [intOf]; omega
  ·have hke : k = x.letters.length := by omega
   rw [hke] at hown
   obtain ⟨c0, c1, c2⟩ := HF.out _ hx
   have HIN := Lib.hid (And.intro (IntsAt.of_owns hown) (owns_place hown))
   have HX := Lib.hid (HX0.out.trans hx)
   clear hown hx hke
   go_wp2
   go_ret
   exact ⟨_, rfl, HX.out, HIN.out.1, HIN.out.2⟩
theorem wrong_any (ga ea oa : Option Addr) (gc en ec on oc : Nat) (ed mo : Int) (xv mv : Value) (b : Book) (x : Buyer) (e : Int) (l : List Int) (w : World) (hg : IntsAt w (.slice ga b.goods.length gc) b.goods) (hx : BuyerAt w xv x) (hm : IntsAt w mv l) (hbu : isBuyerB b x = true) (hl : l ∈ permsB b) :
 Calls Tryz.prog 50 #[.agg #[.slice ga b.goods.length gc, .int .i64 ed, .int .i64 mo, .slice ea en ec, .slice oa on oc], xv, .agg #[.int .i64 e, mv]] w fun r w' => ∃ u, r = .returned u ∧ Ext w w' ∧ IntsAt w' u (wrongB b x l) :=
 (wrong2_any ga ea oa gc en ec on oc ed mo xv mv b x e l w hg hx hm hbu hl).mono fun _ _ ⟨u, h1, h2, h3, _⟩ => ⟨u, h1, h2, h3⟩
end Go.Proofs.YtokananogogjaaaGreatDoor

/- The editions that a buyer can have, one after another. -/
namespace Go.Proofs.YtokananogogjaaaGreatDoor
open Go.RowKit
abbrev Read1 := Int × List Int
def readsOf (b : Book) (s e : Nat) : List Read1 := if s.testBit e then (pageB b e).map fun l => ((e : Int), l) else []
def readsTo (b : Book) (s e : Nat) : List Read1 := (List.range e).flatMap (readsOf b s)
def readsB (b : Book) (x : Buyer) : List Read1 := readsTo b x.editions.toNat b.editions.toNat
theorem readsTo_succ (b : Book) (s e : Nat) : readsTo b s (e + 1) = readsTo b s e ++ readsOf b s e := by
 unfold readsTo; rw [List.range_succ, List.flatMap_append]; simp
theorem readsTo_pre (b : Book) (s : Nat) : ∀ d e, ∃ t, readsTo b s (e + d) = readsTo b s e ++ t
 | 0, e => ⟨[], by simp⟩
 | d + 1, e => by
  obtain ⟨t, h⟩ := readsTo_pre b s d e
  exact ⟨t ++ readsOf b s (e + d), by rw [← Nat.add_assoc, readsTo_succ, h, List.append_assoc]⟩
theorem reads_at {b : Book} {s e ed k : Nat} {l : List Int} (he : e < ed) (hs : s.testBit e = true) (h : (pageB b e)[k]? = some l) : (readsTo b s ed)[(readsTo b s e).length + k]? = some ((e : Int), l) := by
 obtain ⟨t, ht⟩ := readsTo_pre b s (ed - (e + 1)) (e + 1)
 rw [show e + 1 + (ed - (e + 1)) = ed by omega] at ht
 have hl := (List.getElem?_eq_some_iff.1 h).1
 rw [ht, readsTo_succ, List.append_assoc, List.getElem?_append_right (by omega), Nat.add_sub_cancel_left]
 unfold readsOf
 rw [if_pos hs, List.getElem?_append_left (by rw [List.length_map]; exact hl), List.getElem?_map, h]; rfl
/-- A read that is given. -/
def ReadIn (B0 : World) (_ : Nat → Prop) (A : World) (r : Read1) (v : Value) : Prop := Ext B0 A ∧ ∃ mv, v = .agg #[.int .i64 r.1, mv] ∧ IntsAt B0 mv r.2
theorem reads_any (u xv : Value) (w : World) (hu : ∃ a1 n1 c1 x y a2 n2 c2 a3 n3 c3, u = .agg #[.slice a1 n1 c1, .int .i64 x, .int .i64 y, .slice a2 n2 c2, .slice a3 n3 c3]) (hx : ∃ e a n c, xv = .agg #[.int .i64 e, .slice a n c]) :
 Calls Tryz.prog 49 #[u, xv] w fun e w' => e = .returned (.func (.func 85) #[] #[.pointer (some ⟨w.heap.size, 0, none⟩), .pointer (some ⟨w.heap.size + 1, 0, none⟩)]) ∧ ∃ q0 q1 q2 q3 q4 z0 z1, u = .agg #[q0, q1, q2, q3, q4] ∧ xv = .agg #[z0, z1] ∧ w' = (w.alloc (.cells #[q0, q1, q2, q3, q4] 95)).alloc (.cells #[z0, z1] 28) := by
 obtain ⟨a1, n1, c1, x, y, a2, n2, c2, a3, n3, c3, rfl⟩ := hu
 obtain ⟨e, a, n, c, rfl⟩ := hx
 go_enter Tryz.func49, Tryz.ntmps49
 go_wp2
 go_ret
 exact ⟨rfl, _, _, _, _, _, _, _, rfl, rfl, rfl⟩
theorem enters_reads1 : ∀ args w, (callFunc 85 args).run Tryz.prog w = .ok (.enter 85 args) w := enters_of Tryz.func85 (by kernel_rfl) rfl
set_option maxRecDepth 100000 in
set_option maxHeartbeats 8000000 in
theorem reads_iter (b : Book) (s kb xb : Nat) (q0 q1 q2 q3 pv : Value) (B0 W : World) (O0 : Nat → Prop) (hB : BookB b) (hop : OpenAt B0 (.agg #[q0, q1, q2, q3, pv]) b) (hx : Ext B0 W) (hs : s < 8) (hO : ∀ i, O0 i → B0.heap.size ≤ i) (hk : ¬ O0 kb) (hxb : ¬ O0 xb) (hc4 : W.cell? ⟨kb, 4, none⟩ = some pv) (hxc : W.cell? ⟨xb, 0, none⟩ = some (.int .i64 (s : Int))) :
 Iter Tryz.prog 85 #[.pointer (some ⟨kb, 0, none⟩), .pointer (some ⟨xb, 0, none⟩)] (ReadIn B0) (readsTo b s b.editions.toNat) O0 W := by
 intro l J Jx hJ hJx hY h0 hO0
 have hmix : Tryz.prog.follows .mixedOrders = true := by kernel_rfl
 have he1 := hB.e1
 have he3 := hB.e3
 obtain ⟨ed, hed⟩ : ∃ ed : Nat, b.editions = ed := ⟨b.editions.toNat, by omega⟩
 rw [show b.editions.toNat = ed by omega] at hY ⊢
 obtain ⟨_, _, _, _, ob, oc, no, hve, hno, hno1, hoc, _, hpr⟩ := hop.open hB
 cases hve
 have hpr2 : ∀ e : Nat, e < ed → ∃ va vc r, PageRow B0 ob b e (.slice va r.length vc) r := fun e he => hpr e (by omega)
 have hno2 : no = ed := by omega
 subst hno2
 have HPR := Lib.hid hpr2
 have HY := Lib.hid hY
 have HJ := Lib.hid hJ
 have HO := Lib.hid hO
 have HO0 := Lib.hid hO0
 have HK := Lib.hid (And.intro hk hxb)
 have HX := Lib.hid hx
 have HC := Lib.hid (fun (A : World) (ht : Touch O0 W A) => (⟨ht.cell hc4 hk, ht.cell hxc hxb⟩ : _ ∧ _))
 have hno3 : no ≤ 3 := by omega
 clear hpr hpr2 hY hJ hO hO0 hk hxb hx hop hno hB
 suffices h : CallsIn Fence.wide 0 Tryz.prog 85 #[.func (.yield l) #[] #[], .pointer (some ⟨kb, 0, none⟩), .pointer (some ⟨xb, 0, none⟩)] W (fun e W' => (∃ v, e = .returned v) ∧ ((∃ O, J (readsTo b s no).length O W') ∨ Jx W')) from h
 refine callsIn_of_wp Tryz.func85 rfl trivial ?_ rfl
 simp only [Tryz.ntmps85, List.size_toArray, List.length_cons, List.length_nil, Nat.reduceAdd, Nat.reduceSub, Array.replicate_succ, Array.replicate_zero, List.push_toArray, List.append_toArray, List.nil_append, List.cons_append]
 gi_wp2
 clear hc4 hxc
 gi_loopw [11] (fun i wr => ∃ (e : Nat) (O1 : Nat → Prop), e ≤ no ∧ i = .int .i64 (e : Int) ∧ J (readsTo b s e).length O1 wr ∧ Touch O0 W wr ∧ ∀ i, O1 i → (O0 i ∨ W.heap.size ≤ i) ∧ i < wr.heap.size) (fun i _ => no - (intOf i).toNat)
 case atStart => exact ⟨0, O0, Nat.zero_le _, rfl, h0, Touch.refl _ _, fun i hi => ⟨.inl hi, HO0.out i hi⟩⟩
 case round =>
  obtain ⟨e, O1, he, rfl, hj, ht, hO1⟩ := hrel
  have hxr : Ext B0 wr := Touch.ext HX.out ht (fun i hi => HO.out i hi)
  obtain ⟨d4, x0⟩ := HC.out wr ht
  by_cases hlt : e < no
  ·obtain ⟨va, vc, r, hp⟩ := HPR.out e hlt
   have y5 := hxr.cell hp.cell
   have i1 : (0 : Int) ≤ (e : Int) := by omega
   have i2 : (e : Int) < (no : Int) := by omega
   have HS := Lib.hid (readsTo_succ b s e)
   have HHA := Lib.hid (fun W1 => has_any s e W1 (by omega) (by omega))
   cases hbt : s.testBit e with
   | false =>
    rw [hbt] at HHA
    have hz : readsOf b s e = [] := by unfold readsOf; rw [hbt]; rfl
    rw [hz, List.append_nil] at HS
    have HJW := Lib.hid hj
    have HT := Lib.hid ht
    have HO1 := Lib.hid hO1
    clear hbt hz hj ht hO1 hxr hp d4
    gi_wp2_with (gi_at_call 86; refine (callsIn_wide.2 (HHA.out _)).mono ?_; rintro q w2 ⟨rfl, rfl⟩)
    exact ⟨⟨e + 1, O1, by omega, by go_num, by rw [HS.out]; exact HJW.out, HT.out, HO1.out⟩, by simp [intOf]; omega⟩
   | true =>
    rw [hbt] at HHA
    have HJW := Lib.hid hj
    have HT := Lib.hid ht
    have HO1 := Lib.hid hO1
    have HP := Lib.hid hp
    have hrl : r.map Pg.l = pageB b e := hp.ls
    have hcl : (readsOf b s e).length = r.length := by unfold readsOf; rw [if_pos hbt, List.length_map, ← hrl, List.length_map]
    have hsl := congrArg List.length HS.out
    rw [List.length_append, hcl] at hsl
    have HSL := Lib.hid hsl
    have HAT := Lib.hid (fun (k : Nat) (p : Pg) (h : r[k]? = some p) => reads_at (b := b) (s := s) (ed := no) hlt hbt (show (pageB b e)[k]? = some p.l by rw [← hrl, List.getElem?_map, h]; rfl))
    clear hbt hj ht hO1 hxr hp hrl hcl hsl HS
    gi_wp2_with (gi_at_call 86; refine (callsIn_wide.2 (HHA.out _)).mono ?_; rintro q w2 ⟨rfl, rfl⟩)
    clear d4 x0 y5
    obtain ⟨w5, rfl⟩ : ∃ w5 : World, w5 = wr := ⟨_, rfl⟩
    gi_loopw [23] (fun i wr => ∃ (k : Nat) (O2 : Nat → Prop), k ≤ r.length ∧ i = .int .i64 (k : Int) ∧ J ((readsTo b s e).length + k) O2 wr ∧ Touch O0 W wr ∧ ∀ i, O2 i → (O0 i ∨ W.heap.size ≤ i) ∧ i < wr.heap.size) (fun i _ => r.length - (intOf i).toNat)
    case atStart => exact ⟨0, O1, Nat.zero_le _, rfl, HJW.out, HT.out, HO1.out⟩
    case round =>
     obtain ⟨k, O2, hk, rfl, hj, ht, hO2⟩ := hrel
     have hxr : Ext B0 wr := Touch.ext HX.out ht (fun i hi => HO.out i hi)
     by_cases hlt2 : k < r.length
     ·obtain ⟨_, _, hve, _, _, l3⟩ := RowOf.open3 (f := pgC) (fun _ => rfl) (HP.out.row.ext hxr)
      cases hve
      obtain ⟨bb, bo, p, rfl, hpk, d0, d1, d2⟩ := l3 k hlt2
      have hmi := HP.out.mean p (List.mem_of_getElem? hpk.out)
      obtain ⟨ma, mc, hmv, _⟩ := hmi.open
      rw [hmv] at d0 hmi
      have k1 : (0 : Int) ≤ (k : Int) := by omega
      have k2 : (k : Int) < (r.length : Int) := by omega
      obtain ⟨WP, hWP⟩ : ∃ WP, WP = wr.alloc (.cells #[.slice ma p.l.length mc, .int .i64 p.bef, .int .i64 p.aft] 100) := ⟨_, rfl⟩
      have hxp : Ext wr WP := by rw [hWP]; exact (Ext.refl wr).alloc _
      have p0 : WP.cell? ⟨wr.heap.size, 0, none⟩ = some (.slice ma p.l.length mc) := by rw [hWP]; go_simp
      have hXW : W.heap.size ≤ WP.heap.size := Nat.le_trans ht.size hxp.size
      have hyy := HY.out ((readsTo b s e).length + k) ((e : Int), p.l) (.agg #[.int .i64 (e : Int), .slice ma p.l.length mc]) WP O2 ((HJ.out _ _).out' hj hxp) (HAT.out k p hpk.out) ⟨hxr.trans hxp, _, rfl, hmi⟩ hXW (fun i hi => Nat.lt_of_lt_of_le (hO2 i hi).2 hxp.size)
      obtain ⟨fn, tmps, assign, body, hy, hR⟩ := hyy
      have HR := Lib.hid hR
      have HTP := Lib.hid (ht.trans (Touch.of_ext hxp))
      have HO2 := Lib.hid (fun i hi => (⟨(hO2 i hi).1, Nat.lt_of_lt_of_le (hO2 i hi).2 hxp.size⟩ : (O0 i ∨ W.heap.size ≤ i) ∧ i < WP.heap.size))
      clear hxr l3 hmi hmv hR ht hO2 hj hxp hpk hXW p0
      subst hWP
      gi_wp2_with (refine RoundIn.mono HR.out ?_; rintro e' w2 hyr; obtain ⟨b', O', rfl, ht', ho', hj', hx'⟩ := hyr.comp HTP.out (fun i hi => (HO2.out i hi).1))
      all_goals cases b'
      all_goals first
       | exact absurd ‹(!true) = true› (by decide)
       | exact absurd ‹(!false) = false› (by decide)
       | (refine bodyPost_ret (v := .tuple #[]) (by simp [results, Tryz.results85, go_sem]) rfl ?_; exact ⟨⟨_, rfl⟩, .inr (hx' rfl)⟩)
       | exact ⟨⟨k + 1, O', by omega, by go_num, by rw [← Nat.add_assoc]; exact hj' rfl, ht', ho'⟩, by simp [intOf]; omega⟩
     ·have hkr : k = r.length := by omega
      rw [hkr] at hj
      have HJ2 := Lib.hid hj
      have HT2 := Lib.hid ht
      have HO2 := Lib.hid hO2
      clear hj ht hO2 hxr hkr
      gi_wp2
      exact ⟨⟨e + 1, O2, by omega, by go_num, by rw [HSL.out]; exact HJ2.out, HT2.out, HO2.out⟩, by simp [intOf]; omega⟩
  ·have hee : e = no := by omega
   have hfin : (∃ O, J (readsTo b s no).length O wr) ∨ Jx wr := .inl ⟨O1, by rw [← hee]; exact hj⟩
   have HF := Lib.hid hfin
   clear hfin hj ht hO1 hxr d4 x0 hee
   gi_wp2
   go_end0
   exact ⟨⟨_, rfl⟩, HF.out⟩
end Go.Proofs.YtokananogogjaaaGreatDoor

/- All that a buyer's letters can mean. -/
namespace Go.Proofs.YtokananogogjaaaGreatDoor
open Go.RowKit
attribute [local go_sem] Oper.semAt_some
def lettersB (b : Book) (x : Buyer) : List Read1 := (readsB b x).filter fun r => (wrongB b x r.2).isEmpty
def lettersTo (b : Book) (x : Buyer) (k : Nat) : List Read1 := ((readsB b x).take k).filter fun r => (wrongB b x r.2).isEmpty
theorem lettersTo_all (b : Book) (x : Buyer) : lettersTo b x (readsB b x).length = lettersB b x := by unfold lettersTo lettersB; rw [List.take_length]
theorem lettersTo_yes {b : Book} {x : Buyer} {k : Nat} {r : Read1} (h : (readsB b x)[k]? = some r) (hw : wrongB b x r.2 = []) : lettersTo b x (k + 1) = lettersTo b x k ++ [r] := by
 unfold lettersTo; rw [List.take_add_one, h, Option.toList_some, List.filter_append, List.filter_cons_of_pos (by rw [hw]; rfl)]; rfl
theorem lettersTo_no {b : Book} {x : Buyer} {k : Nat} {r : Read1} (h : (readsB b x)[k]? = some r) (hw : wrongB b x r.2 ≠ []) : lettersTo b x (k + 1) = lettersTo b x k := by
 unfold lettersTo; rw [List.take_add_one, h, Option.toList_some, List.filter_append, List.filter_cons_of_neg (by simpa using hw)]; simp
theorem reads_mem {b : Book} {s ed : Nat} {r : Read1} (h : r ∈ readsTo b s ed) : ∃ e : Nat, e < ed ∧ r.1 = e ∧ s.testBit e = true ∧ r.2 ∈ pageB b e := by
 unfold readsTo at h
 obtain ⟨e, he, h⟩ := List.mem_flatMap.1 h
 unfold readsOf at h
 split at h
 ·obtain ⟨l, hl, rfl⟩ := List.mem_map.1 h
  exact ⟨e, List.mem_range.1 he, rfl, by assumption, hl⟩
 ·simp at h
theorem readsOf_len {b : Book} (hB : BookB b) (s e : Nat) : (readsOf b s e).length ≤ 3125 := by
 unfold readsOf
 split
 ·rw [List.length_map]; exact Nat.le_trans (List.length_filter_le _ _) (sp_count hB e)
 ·simp
theorem readsTo_len {b : Book} (hB : BookB b) (s : Nat) : ∀ e, (readsTo b s e).length ≤ 3125 * e
 | 0 => by simp [readsTo]
 | e + 1 => by rw [readsTo_succ, List.length_append]; have := readsTo_len hB s e; have := readsOf_len hB s e; omega
theorem readsB_len {b : Book} (hB : BookB b) (x : Buyer) : (readsB b x).length ≤ 10000 := by
 have := readsTo_len hB x.editions.toNat b.editions.toNat
 have := hB.e3
 unfold readsB; omega
theorem lettersTo_len {b : Book} (hB : BookB b) (x : Buyer) (k : Nat) : (lettersTo b x k).length ≤ 10000 :=
 Nat.le_trans (List.length_filter_le _ _) (Nat.le_trans (by rw [List.length_take]; exact Nat.min_le_right _ _) (readsB_len hB x))
/-- A read as it lies in memory. -/
structure Rd where
 v : Value
 e : Int
 l : List Int
def rdC (r : Rd) : List Value := [.int .i64 r.e, r.v]
def ReadsAt (w : World) (v : Value) (rs : List Read1) : Prop := ∃ rows : List Rd, rows.map (fun r => (r.e, r.l)) = rs ∧ RowOf rdC w v rows ∧ ∀ r, r ∈ rows → IntsAt w r.v r.l
theorem ReadsAt.ext {w w' : World} {v : Value} {rs : List Read1} (h : ReadsAt w v rs) (k : Ext w w') : ReadsAt w' v rs := by
 obtain ⟨rows, h1, h2, h3⟩ := h
 exact ⟨rows, h1, h2.ext k, fun r hr => (h3 r hr).ext k⟩
def letErr (b : Book) (x : Buyer) : Int := if askErr b (isBuyerB b x) = 0 then (if lettersB b x = [] then 7 else 0) else askErr b (isBuyerB b x)
def LetRes (b : Book) (x : Buyer) (w : World) (e : Ending) (w' : World) : Prop :=
 Ext w w' ∧ ((letErr b x ≠ 0 ∧ e = .returned (.tuple #[.slice none 0 0, .int .i64 (letErr b x)])) ∨ (letErr b x = 0 ∧ ∃ u, e = .returned (.tuple #[u, .int .i64 0]) ∧ ReadsAt w' u (lettersB b x)))
theorem E_reads : Elem Tryz.prog 87 91 2 32 (.agg #[.int .i64 0, .slice none 0 0]) := by
 obtain ⟨i, h1, h2, h3, h4⟩ := info_parts (P := Tryz.prog) (e := 91) (z := .agg #[.int .i64 0, .slice none 0 0]) (size := 2) (bytes := 32) (by kernel_rfl)
 exact ⟨Tryz.underlying87, ⟨i, h1, h2, h3, h4⟩, rfl, by decide⟩
/-- The round's state: what has been taken so far. -/
structure LetI (b : Book) (x : Buyer) (w1 : World) (k : Nat) (ov : Value) (O : Nat → Prop) (W : World) (rows : List Rd) : Prop where
 col : ColI w1 w1.heap.size 91 2 rows.length (rows.flatMap rdC) ov O W
 rs : rows.map (fun r => (r.e, r.l)) = lettersTo b x k
 ms : ∀ r, r ∈ rows → IntsAt w1 r.v r.l
theorem rows_nb {w1 : World} {rows : List Rd} (h : ∀ r, r ∈ rows → IntsAt w1 r.v r.l) : ∀ u, u ∈ rows.flatMap rdC → NB u := by
 intro u hu
 obtain ⟨r, hr, hu⟩ := List.mem_flatMap.1 hu
 obtain ⟨a, c, hv, _⟩ := (h r hr).open
 unfold rdC at hu
 rcases List.mem_cons.1 hu with rfl | hu
 ·exact NB.int _ _
 ·rw [List.mem_singleton] at hu
  subst hu
  rw [hv]; exact NB.slice _ _ _
set_option maxRecDepth 100000 in
set_option maxHeartbeats 16000000 in
theorem letters_any (v xv : Value) (b : Book) (x : Buyer) (w : World) (hB : BookB b) (hb : BookAt w v b) (hx : BuyerAt w xv x) :
 Calls Tryz.prog 43 #[v, xv] w (LetRes b x w) := by
 have HAS := Lib.hid (fun W1 (h : Ext w W1) => asked5_any v b (isBuyerB b x) W1 (hb.ext h))
 have HBU0 := Lib.hid (fun W1 (h : Ext w W1) => isBuyer_any v xv b x W1 hB (hb.ext h) (hx.ext h))
 have HXB := Lib.hid (fun W1 (h : Ext w W1) => hx.ext h)
 have HBB := Lib.hid (fun W1 (h : Ext w W1) => hb.ext h)
 obtain ⟨ga, gc, ea, ec, rfl, hgl, hel⟩ := hb.open
 obtain ⟨la, lc, rfl, hl1, hl2, hlr⟩ := hx.open
 obtain ⟨W, hW⟩ : ∃ W, W = (w.alloc (bookBox (.slice ga b.goods.length gc) b (.slice ea b.entries.length ec))).alloc (.cells #[.int .i64 x.editions, .slice la x.letters.length lc] 28) := ⟨_, rfl⟩
 have hx0 : Ext w W := by rw [hW]; exact ((Ext.refl w).alloc _).alloc _
 have HX0 := Lib.hid hx0
 have HBW := Lib.hid (hb.ext hx0)
 have HBU := Lib.hid (fun W1 (h : Ext W W1) => HBU0.out W1 (hx0.trans h))
 have c0 : W.cell? ⟨w.heap.size, 0, none⟩ = some (.slice ga b.goods.length gc) := by rw [hW]; go_simp
 have c1 : W.cell? ⟨w.heap.size, 1, none⟩ = some (.int .i64 b.editions) := by rw [hW]; go_simp
 have c2 : W.cell? ⟨w.heap.size, 2, none⟩ = some (.int .i64 b.moves) := by rw [hW]; go_simp
 have c3 : W.cell? ⟨w.heap.size, 3, none⟩ = some (.slice ea b.entries.length ec) := by rw [hW]; go_simp
 have c4 : W.cell? ⟨w.heap.size + 1, 0, none⟩ = some (.int .i64 x.editions) := by rw [hW]; go_simp
 have c5 : W.cell? ⟨w.heap.size + 1, 1, none⟩ = some (.slice la x.letters.length lc) := by rw [hW]; go_simp
 have HF := Lib.hid (fun W1 (h : Ext W W1) => (⟨h.cell c0, h.cell c1, h.cell c2, h.cell c3, h.cell c4, h.cell c5⟩ : _ ∧ _ ∧ _ ∧ _ ∧ _ ∧ _))
 have HB := Lib.hid hB
 clear hb c0 c1 c2 c3 c4 c5 hx0 hgl hel hx hlr hB HBU0
 refine (callsIn_wide (n := 0)).1 ?_
 refine callsIn_of_wp_marks Tryz.func43 rfl trivial ?_ rfl
 simp only [Tryz.ntmps43, List.size_toArray, List.length_cons, List.length_nil, Nat.reduceAdd, Nat.reduceSub, Array.replicate_succ, Array.replicate_zero, List.push_toArray, List.append_toArray, List.nil_append, List.cons_append]
 refine (wpIn_wide (n := 0)).2 ?_
 go_upto_region 1 with fail
 unfold bookBox at hW
 rw [← hW]
 clear hW
 refine Code.wp_mono (Q := fun ex a' w' => match ex with | .normal => ∃ (B : Nat) (u8 u9 u10 u11 u12 u13 u14 u15 u16 u17 u18 u19 u20 u21 u22 u23 u24 u25 u26 u27 u28 u29 u30 u31 u32 u33 u34 u35 u36 u37 u38 : Value), a' = { tmps := #[(.agg #[.slice ga b.goods.length gc, .int .i64 b.editions, .int .i64 b.moves, .slice ea b.entries.length ec]), (.agg #[.int .i64 x.editions, .slice la x.letters.length lc]), .pointer (some ⟨w.heap.size, 0, none⟩), .pointer (some ⟨w.heap.size + 1, 0, none⟩), .slice none 0 0, .int .i64 0, .pointer (some ⟨B, 0, none⟩), .int .i64 (askErr b (isBuyerB b x)), u8, u9, u10, u11, u12, u13, u14, u15, u16, u17, u18, u19, u20, u21, u22, u23, u24, u25, u26, u27, u28, u29, u30, u31, u32, u33, u34, u35, u36, u37, u38], defers := [] } ∧ OpenIn b W B (askErr b (isBuyerB b x)) w' | _ => False) (fun ex a' w' h => ?_) ?_
 rotate_left
 ·skip
  refine wp_region_held_drew (S := (fun W => W.cell? ⟨w.heap.size, 0, none⟩ = some (.slice ga b.goods.length gc) ∧ W.cell? ⟨w.heap.size, 1, none⟩ = some (.int .i64 b.editions) ∧ W.cell? ⟨w.heap.size, 2, none⟩ = some (.int .i64 b.moves) ∧ W.cell? ⟨w.heap.size, 3, none⟩ = some (.slice ea b.entries.length ec) ∧ W.cell? ⟨w.heap.size + 1, 0, none⟩ = some (.int .i64 x.editions) ∧ W.cell? ⟨w.heap.size + 1, 1, none⟩ = some (.slice la x.letters.length lc))) (by kernel_rfl) ?_ (fun hHeld => ?_)
  ·exact HF.out _ (Ext.refl W).drew
  refine hTk (i := 0) (d := some 11) (v := ?_) (fun o ho => ?_) hHeld ?_
  rotate_left
  ·simp only [zA, zB, zD] at ho
   subst ho
   refine ⟨by rfl, fun w hSw => ?_⟩
   (try dsimp only at hSw)
   go_simp
   try with_reducible rfl
  try simp only [Act.put, yA, yB, yC]
  refine hTk (i := 1) (d := some 12) (v := ?_) (fun o ho => ?_) hHeld ?_
  rotate_left
  ·simp only [zA, zB, zC, zD] at ho
   subst ho
   refine ⟨by rfl, fun w hSw => ?_⟩
   (try dsimp only at hSw)
   go_simp
   try with_reducible rfl
  try simp only [Act.put, yA, yB, yC]
  refine hTk (i := 2) (d := some 13) (v := ?_) (fun o ho => ?_) hHeld ?_
  rotate_left
  ·simp only [zA, zB, zC, zD] at ho
   subst ho
   refine ⟨by rfl, fun w hSw => ?_⟩
   (try dsimp only at hSw)
   go_simp
   try with_reducible rfl
  try simp only [Act.put, yA, yB, yC]
  refine wpAnyH_ready (rs := [3, 8]) (by kernel_rfl) (by simp) ?_
  refine held_step (i := 3) (by kernel_rfl) (fun o ho K' hK => ?_) ?_
  ·simp only [zA, zB, zC, zD] at ho
   subst ho
   go_simp
   go_at_call 48
   refine (HBU.out _ eC).mono ?_
   rintro r w3 ⟨rfl, hz⟩
   have hyw3 : Ext W w3 := Ext.trans eC hz
   have hsw3 := hyw3.size
   clear hz
   try go_simp
   refine hK.out _ _ ?_ (fun hHeld => ?_)
   ·exact HF.out _ eS
   clear hK K'
   try simp only [yA, yB, yC]
   refine wpAnyH_ready (rs := [4, 8]) (by kernel_rfl) (by simp) ?_
   refine held_step (i := 4) (by kernel_rfl) (fun o ho K' hK => ?_) ?_
   ·simp only [zA, zB, zC, zD] at ho
    subst ho
    go_simp
    go_at_call 45
    refine (HAS.out _ (HX0.out.trans eC)).mono ?_
    rintro r w4 ⟨a1, n1, c1, x, y, a2, n2, c2, a3, n3, c3, rfl, hz, hop⟩
    have hyw4 : Ext W w4 := Ext.trans eC hz
    have hsw4 := hyw4.size
    try go_simp
    refine hK.out _ _ ?_ (fun hHeld => ?_)
    ·exact HF.out _ eS
    clear hK K'
    try simp only [yA, yB, yC]
    refine hTk (i := 5) (d := some 10) (v := ?_) (fun o ho => ?_) hHeld ?_
    rotate_left
    ·simp only [zA, zB, zC, zD] at ho
     subst ho
     refine ⟨by rfl, fun w hSw => ?_⟩
     (try dsimp only at hSw)
     go_simp
     try with_reducible rfl
    try simp only [Act.put, yA, yB, yC]
    refine hTk (i := 6) (d := some 16) (v := ?_) (fun o ho => ?_) hHeld ?_
    rotate_left
    ·simp only [zA, zB, zC, zD] at ho
     subst ho
     refine ⟨by rfl, fun w hSw => ?_⟩
     (try dsimp only at hSw)
     go_simp
     try with_reducible rfl
    try simp only [Act.put, yA, yB, yC]
    refine hTk (i := 7) (d := some 17) (v := ?_) (fun o ho => ?_) hHeld ?_
    rotate_left
    ·simp only [zA, zB, zC, zD] at ho
     subst ho
     refine ⟨by rfl, fun w hSw => ?_⟩
     (try dsimp only at hSw)
     go_simp
     try with_reducible rfl
    try simp only [Act.put, yA, yB, yC]
    refine wpAnyH_ready (rs := [8]) (by kernel_rfl) (by simp) ?_
    refine held_step (i := 8) (by kernel_rfl) (fun o ho K' hK => ?_) ?_
    ·simp only [zA, zB, zC, zD] at ho
     subst ho
     go_simp
     refine hK.out _ _ ?_ (fun hHeld => ?_)
     ·exact HF.out _ eS
     clear hK K'
     try simp only [yA, yB, yC]
     refine wpAnyH_ready (rs := [9]) (by kernel_rfl) (by simp) ?_
     refine held_step (i := 9) (by kernel_rfl) (fun o ho K' hK => ?_) ?_
     ·simp only [zA, zB, zC, zD] at ho
      subst ho
      go_simp
      refine hK.out _ _ ?_ (fun hHeld => ?_)
      ·exact HF.out _ eS
      clear hK K'
      try simp only [yA, yB, yC]
      refine wpAnyH_ready (rs := [10]) (by kernel_rfl) (by simp) ?_
      refine held_step (i := 10) (by kernel_rfl) (fun o ho K' hK => ?_) ?_
      ·simp only [zA, zB, zC, zD] at ho
       subst ho
       go_simp
       refine hK.out _ _ ?_ (fun hHeld => ?_)
       ·exact HF.out _ eS
       clear hK K'
       try simp only [yA, yB, yC]
       refine wpAnyH_done (by kernel_rfl) ?_ _
       clear hHeld
       refine ⟨_, _, _, _, _, _, _, _, _, _, _, _, _, _, _, _, _, _, _, _, _, _, _, _, _, _, _, _, _, _, _, _, rfl, ?_⟩
       exact openIn_after HBW.out hyw4 hop
      exact AllReadyH.nil
     exact AllReadyH.nil
    exact AllReadyH.nil
   refine held_step (i := 8) (by kernel_rfl) (fun o ho K' hK => ?_) ?_
   ·simp only [zA, zB, zC, zD] at ho
    subst ho
    go_simp
    refine hK.out _ _ ?_ (fun hHeld => ?_)
    ·exact HF.out _ eS
    clear hK K'
    try simp only [yA, yB, yC]
    refine wpAnyH_ready (rs := [4]) (by kernel_rfl) (by simp) ?_
    refine held_step (i := 4) (by kernel_rfl) (fun o ho K' hK => ?_) ?_
    ·simp only [zA, zB, zC, zD] at ho
     subst ho
     go_simp
     go_at_call 45
     refine (HAS.out _ (HX0.out.trans eC)).mono ?_
     rintro r w4 ⟨a1, n1, c1, x, y, a2, n2, c2, a3, n3, c3, rfl, hz, hop⟩
     have hyw4 : Ext W w4 := Ext.trans eC hz
     have hsw4 := hyw4.size
     have hzb : w4.heap[w3.heap.size]? = some (.cells #[.slice none 0 0, .int .i64 0, .int .i64 0, .slice none 0 0, .slice none 0 0] 95) := (by first | exact ext_new hz | exact ext_newd hz)
     obtain ⟨⟨y0, y1, y2, y3, y4⟩, x0, x1, x2, x3, x4⟩ := open_cells hzb
     try go_simp
     refine hK.out _ _ ?_ (fun hHeld => ?_)
     ·exact HF.out _ eS
     clear hK K'
     try simp only [yA, yB, yC]
     refine hTk (i := 5) (d := some 10) (v := ?_) (fun o ho => ?_) hHeld ?_
     rotate_left
     ·simp only [zA, zB, zC, zD] at ho
      subst ho
      refine ⟨by rfl, fun w hSw => ?_⟩
      (try dsimp only at hSw)
      go_simp
      try with_reducible rfl
     try simp only [Act.put, yA, yB, yC]
     refine hTk (i := 6) (d := some 16) (v := ?_) (fun o ho => ?_) hHeld ?_
     rotate_left
     ·simp only [zA, zB, zC, zD] at ho
      subst ho
      refine ⟨by rfl, fun w hSw => ?_⟩
      (try dsimp only at hSw)
      go_simp
      try with_reducible rfl
     try simp only [Act.put, yA, yB, yC]
     refine hTk (i := 7) (d := some 17) (v := ?_) (fun o ho => ?_) hHeld ?_
     rotate_left
     ·simp only [zA, zB, zC, zD] at ho
      subst ho
      refine ⟨by rfl, fun w hSw => ?_⟩
      (try dsimp only at hSw)
      go_simp
      try with_reducible rfl
     try simp only [Act.put, yA, yB, yC]
     refine wpAnyH_ready (rs := [9]) (by kernel_rfl) (by simp) ?_
     refine held_step (i := 9) (by kernel_rfl) (fun o ho K' hK => ?_) ?_
     ·simp only [zA, zB, zC, zD] at ho
      subst ho
      go_simp
      refine hK.out _ _ ?_ (fun hHeld => ?_)
      ·exact HF.out _ eS
      clear hK K'
      try simp only [yA, yB, yC]
      refine wpAnyH_ready (rs := [10]) (by kernel_rfl) (by simp) ?_
      refine held_step (i := 10) (by kernel_rfl) (fun o ho K' hK => ?_) ?_
      ·simp only [zA, zB, zC, zD] at ho
       subst ho
       go_simp
       refine hK.out _ _ ?_ (fun hHeld => ?_)
       ·exact HF.out _ eS
       clear hK K'
       try simp only [yA, yB, yC]
       refine wpAnyH_done (by kernel_rfl) ?_ _
       clear hHeld
       refine ⟨_, _, _, _, _, _, _, _, _, _, _, _, _, _, _, _, _, _, _, _, _, _, _, _, _, _, _, _, _, _, _, _, rfl, ?_⟩
       exact openIn_before HBW.out hyw4 hzb (by omega) (by first | (simp; done) | (simp; omega) | (simp only [World.size_alloc, World.heap_drew]; omega) | (have := (Array.getElem?_eq_some_iff.1 hzc).1; omega)) hop
      exact AllReadyH.nil
     exact AllReadyH.nil
    exact AllReadyH.nil
   exact AllReadyH.nil
  refine held_step (i := 8) (by kernel_rfl) (fun o ho K' hK => ?_) ?_
  ·simp only [zA, zB, zC, zD] at ho
   subst ho
   go_simp
   refine hK.out _ _ ?_ (fun hHeld => ?_)
   ·exact HF.out _ eS
   clear hK K'
   try simp only [yA, yB, yC]
   refine wpAnyH_ready (rs := [3]) (by kernel_rfl) (by simp) ?_
   refine held_step (i := 3) (by kernel_rfl) (fun o ho K' hK => ?_) ?_
   ·simp only [zA, zB, zC, zD] at ho
    subst ho
    go_simp
    go_at_call 48
    refine (HBU.out _ eC).mono ?_
    rintro r w3 ⟨rfl, hz⟩
    have hyw3 : Ext W w3 := Ext.trans eC hz
    have hsw3 := hyw3.size
    have hzb : w3.heap[W.heap.size]? = some (.cells #[.slice none 0 0, .int .i64 0, .int .i64 0, .slice none 0 0, .slice none 0 0] 95) := (by first | exact ext_new hz | exact ext_newd hz)
    clear hz
    try go_simp
    refine hK.out _ _ ?_ (fun hHeld => ?_)
    ·exact HF.out _ eS
    clear hK K'
    try simp only [yA, yB, yC]
    refine wpAnyH_ready (rs := [4]) (by kernel_rfl) (by simp) ?_
    refine held_step (i := 4) (by kernel_rfl) (fun o ho K' hK => ?_) ?_
    ·simp only [zA, zB, zC, zD] at ho
     subst ho
     go_simp
     go_at_call 45
     refine (HAS.out _ (HX0.out.trans eC)).mono ?_
     rintro r w4 ⟨a1, n1, c1, x, y, a2, n2, c2, a3, n3, c3, rfl, hz, hop⟩
     have hyw4 : Ext W w4 := Ext.trans eC hz
     have hsw4 := hyw4.size
     have hzc := hzb
     have hzb : w4.heap[W.heap.size]? = some (.cells #[.slice none 0 0, .int .i64 0, .int .i64 0, .slice none 0 0, .slice none 0 0] 95) := ext_block hz hzb
     obtain ⟨⟨y0, y1, y2, y3, y4⟩, x0, x1, x2, x3, x4⟩ := open_cells hzb
     try go_simp
     refine hK.out _ _ ?_ (fun hHeld => ?_)
     ·exact HF.out _ eS
     clear hK K'
     try simp only [yA, yB, yC]
     refine hTk (i := 5) (d := some 10) (v := ?_) (fun o ho => ?_) hHeld ?_
     rotate_left
     ·simp only [zA, zB, zC, zD] at ho
      subst ho
      refine ⟨by rfl, fun w hSw => ?_⟩
      (try dsimp only at hSw)
      go_simp
      try with_reducible rfl
     try simp only [Act.put, yA, yB, yC]
     refine hTk (i := 6) (d := some 16) (v := ?_) (fun o ho => ?_) hHeld ?_
     rotate_left
     ·simp only [zA, zB, zC, zD] at ho
      subst ho
      refine ⟨by rfl, fun w hSw => ?_⟩
      (try dsimp only at hSw)
      go_simp
      try with_reducible rfl
     try simp only [Act.put, yA, yB, yC]
     refine hTk (i := 7) (d := some 17) (v := ?_) (fun o ho => ?_) hHeld ?_
     rotate_left
     ·simp only [zA, zB, zC, zD] at ho
      subst ho
      refine ⟨by rfl, fun w hSw => ?_⟩
      (try dsimp only at hSw)
      go_simp
      try with_reducible rfl
     try simp only [Act.put, yA, yB, yC]
     refine wpAnyH_ready (rs := [9]) (by kernel_rfl) (by simp) ?_
     refine held_step (i := 9) (by kernel_rfl) (fun o ho K' hK => ?_) ?_
     ·simp only [zA, zB, zC, zD] at ho
      subst ho
      go_simp
      refine hK.out _ _ ?_ (fun hHeld => ?_)
      ·exact HF.out _ eS
      clear hK K'
      try simp only [yA, yB, yC]
      refine wpAnyH_ready (rs := [10]) (by kernel_rfl) (by simp) ?_
      refine held_step (i := 10) (by kernel_rfl) (fun o ho K' hK => ?_) ?_
      ·simp only [zA, zB, zC, zD] at ho
       subst ho
       go_simp
       refine hK.out _ _ ?_ (fun hHeld => ?_)
       ·exact HF.out _ eS
       clear hK K'
       try simp only [yA, yB, yC]
       refine wpAnyH_done (by kernel_rfl) ?_ _
       clear hHeld
       refine ⟨_, _, _, _, _, _, _, _, _, _, _, _, _, _, _, _, _, _, _, _, _, _, _, _, _, _, _, _, _, _, _, _, rfl, ?_⟩
       exact openIn_before HBW.out hyw4 hzb (by omega) (by first | (simp; done) | (simp; omega) | (simp only [World.size_alloc, World.heap_drew]; omega) | (have := (Array.getElem?_eq_some_iff.1 hzc).1; omega)) hop
      exact AllReadyH.nil
     exact AllReadyH.nil
    exact AllReadyH.nil
   exact AllReadyH.nil
  exact AllReadyH.nil
 cases ex with
 | normal =>
  obtain ⟨B, u8, u9, u10, u11, u12, u13, u14, u15, u16, u17, u18, u19, u20, u21, u22, u23, u24, u25, u26, u27, u28, u29, u30, u31, u32, u33, u34, u35, u36, u37, u38, rfl, hxW, a1, n1, k1, y, z, a2, n2, k2, a3, n3, k3, hblk, hopn⟩ := h
  clear HAS HBU HBW
  obtain ⟨⟨y0, y1, y2, y3, y4⟩, _⟩ := open_cells hblk
  have HXW := Lib.hid (HX0.out.trans hxW)
  obtain ⟨_, _, _, _, x0, x1⟩ := HF.out _ hxW
  rcases askErr_or b (isBuyerB b x) with ⟨hz, _, hbu, _⟩ | hz
  ·have hop := hopn hz
   rw [hz]
   clear hopn hblk hxW HX0 HF
   have hop2 := hop
   obtain ⟨_, _, _, hve, hbk, _⟩ := hop2
   cases hve
   obtain ⟨_, _, hve, hg, _⟩ := hbk
   cases hve
   obtain ⟨_, _, hve, _, _, _⟩ := hg.open
   cases hve
   have hed : ∃ s : Nat, x.editions = (s : Int) ∧ s < 8 := by
    have h := hbu
    unfold isBuyerB at h
    simp only [Bool.and_eq_true] at h
    have h1 := inB_iff.1 h.1.1
    have e3 := HB.out.e3
    have e1 := HB.out.e1
    have h2 : (2 : Int) ^ b.editions.toNat ≤ 8 := by
     rcases (by omega : b.editions.toNat = 1 ∨ b.editions.toNat = 2 ∨ b.editions.toNat = 3) with h | h | h <;> rw [h] <;> decide
    exact ⟨x.editions.toNat, by omega, by omega⟩
   obtain ⟨s, hs, hs8⟩ := hed
   have HWR := Lib.hid (fun (mv : Value) (e : Int) (l : List Int) (W1 : World) (h : Ext w' W1) (hm : IntsAt W1 mv l) (hl : l ∈ permsB b) => wrong_any a1 a2 a3 k1 n2 k2 n3 k3 b.editions b.moves (.agg #[.int .i64 x.editions, .slice la x.letters.length lc]) mv b x e l W1 (hg.ext h) (HXB.out W1 (HXW.out.trans h)) hm hbu hl)
   have hxc : Ext w' (w'.alloc (.cells #[.slice none 0 0] 87)) := (Ext.refl w').alloc _
   have HCC := Lib.hid (fun (W1 : World) (h : Ext w' W1) => (⟨h.cell y0, h.cell y1, h.cell y2, h.cell y3, h.cell y4, h.cell x0, h.cell x1⟩ : _ ∧ _ ∧ _ ∧ _ ∧ _ ∧ _ ∧ _))
   have HOP := Lib.hid hop
   have HSS := Lib.hid hs
   have HBUH := Lib.hid hbu
   have HRD : Hid (readsB b x = readsTo b s b.editions.toNat) := by unfold Hid readsB; rw [hs, Int.toNat_natCast]
   clear y0 y1 y2 y3 y4 x0 x1 hg hop hs HXB HBB hbu
   obtain ⟨y0, y1, y2, y3, y4, x0, x1⟩ := HCC.out _ hxc
   clear hxc
   go_wp2_with (go_at_call 49; refine (reads_any _ _ _ ⟨_, _, _, _, _, _, _, _, _, _, _, rfl⟩ ⟨_, _, _, _, rfl⟩).mono ?_; rintro e w2 ⟨rfl, q0, q1, q2, q3, q4, z0, z1, hu, hv, rfl⟩; cases hu; cases hv)
   refine (wpIn_wide (n := 0)).1 ?_
   obtain ⟨Wg, hWg⟩ : ∃ Wg, Wg = ((w'.alloc (.cells #[.slice none 0 0] 87)).alloc (.cells #[.slice a1 b.goods.length k1, .int .i64 b.editions, .int .i64 b.moves, .slice a2 n2 k2, .slice a3 n3 k3] 95)).alloc (.cells #[.int .i64 x.editions, .slice la x.letters.length lc] 28) := ⟨_, rfl⟩
   have hxg : Ext w' Wg := by rw [hWg]; exact (((Ext.refl w').alloc _).alloc _).alloc _
   have hzg : Wg.heap.size = w'.heap.size + 3 := by rw [hWg]; simp
   have g4 : Wg.cell? ⟨w'.heap.size + 1, 4, none⟩ = some (.slice a3 n3 k3) := by rw [hWg]; go_simp
   have g5 : Wg.cell? ⟨w'.heap.size + 2, 0, none⟩ = some (.int .i64 x.editions) := by rw [hWg]; go_simp
   rw [HSS.out] at g5
   have hr0 : LetI b x w' 0 (.slice none 0 0) (fun j => j = w'.heap.size) Wg [] :=
    ⟨⟨hxg, by rw [hWg]; go_simp, by rw [hWg]; go_simp, World.ownsRow_nil _ _ _ _, fun j => ⟨.inl, fun h => h.elim id (fun h => by cases h)⟩⟩, by simp [lettersTo], fun r hr => by simp at hr⟩
   rw [← hWg]
   clear hWg y0 y1 y2 y3 y4 x0 x1
   refine wpIn_range (gf := 85) (lb := #[.pointer (some ⟨w'.heap.size + 1, 0, none⟩), .pointer (some ⟨w'.heap.size + 2, 0, none⟩)]) (by rfl) enters_reads1 (ReadIn w') (fun O O' A x v h k => k) (readsB b x) (fun j => j = w'.heap.size) ?hM ?hiter
    (fun k O W => ∃ ov rows, LetI b x w' k ov O W rows) (fun _ _ => False) ?hI (fun _ _ _ h _ => h.elim) ⟨_, _, hr0⟩
    (fun k O r v a' W => ∃ (bb : Nat) (mv : Value), v = .agg #[.int .i64 r.1, mv] ∧ IntsAt w' mv r.2 ∧ W.cell? ⟨bb, 0, none⟩ = some (.int .i64 r.1) ∧ W.cell? ⟨bb, 1, none⟩ = some mv ∧ ∃ (t0 t1 t4 t5 t7 t10 t11 t12 t13 t14 t15 t16 t17 t18 t19 t20 t21 t22 t23 t24 t25 t26 t27 t28 t29 t30 t31 t32 t33 t34 t35 t36 t37 t38 : Value), a' = { tmps := #[t0, t1, .pointer (some ⟨w.heap.size, 0, none⟩), .pointer (some ⟨w.heap.size + 1, 0, none⟩), t4, t5, .pointer (some ⟨B, 0, none⟩), t7, .pointer (some ⟨w'.heap.size, 0, none⟩), .pointer (some ⟨bb, 0, none⟩), t10, t11, t12, t13, t14, t15, t16, t17, t18, t19, t20, t21, t22, t23, t24, t25, t26, t27, t28, t29, t30, t31, t32, t33, t34, t35, t36, t37, t38], defers := [] }) ?hAx ?hassign ?hbody ?hdone ?hstop
   case hM => intro j hj; omega
   case hiter =>
    intro W1 h1 h2
    have := reads_iter b s (w'.heap.size + 1) (w'.heap.size + 2) _ _ _ _ _ w' W1 (fun k => k = w'.heap.size ∨ k = Wg.heap.size + 1) HB.out HOP.out (hxg.trans h1) hs8 (fun i hi => by rcases hi with hi | hi <;> omega) (fun h => by rcases h with h | h <;> omega) (fun h => by rcases h with h | h <;> omega) (h1.cell g4) (h1.cell g5)
    rw [HRD.out]; exact this
   case hI =>
    rintro k O A B' ⟨ov, rows, h⟩ q
    exact ⟨ov, rows, h.col.quiet q (by omega) (rows_nb h.ms) (.inl rfl), h.rs, h.ms⟩
   case hAx =>
    rintro k O r v a' A B' ⟨bb, mv, rfl, h1, h2, h3, h4⟩ q
    obtain ⟨_, _, rfl, _⟩ := h1.open
    exact ⟨bb, _, rfl, h1, q.cell h2 (NB.int _ _), q.cell h3 (NB.slice _ _ _), h4⟩
   case hstop => intro D c W _ h; exact h.elim
   case hassign =>
    rintro l k O r v W K hi hx ⟨hxe, mv, rfl, hm⟩ hK
    have HK := Lib.hid hK
    have HM := Lib.hid hm
    obtain ⟨ma, mc, rfl, _⟩ := hm.open
    clear hK hi hm hxe
    gi_wp2
    refine HK.out _ (W.alloc (.cells #[.int .i64 r.1, .slice ma r.2.length mc] 91)) ((Ext.refl W).alloc _) ⟨W.heap.size, _, rfl, HM.out, by go_simp, by go_simp, ?_⟩
    (repeat apply Exists.intro)
    rfl
   case hbody =>
    rintro l k O r v a' W hl ⟨rc, hrc⟩ hOO ⟨ov, rows, hR⟩ hx ⟨bb, mv, rfl, hm, d0, d1, hA⟩ hsz
    obtain ⟨t0, hA⟩ := hA
    obtain ⟨t1, hA⟩ := hA
    obtain ⟨t4, hA⟩ := hA
    obtain ⟨t5, hA⟩ := hA
    obtain ⟨t7, hA⟩ := hA
    obtain ⟨t10, hA⟩ := hA
    obtain ⟨t11, hA⟩ := hA
    obtain ⟨t12, hA⟩ := hA
    obtain ⟨t13, hA⟩ := hA
    obtain ⟨t14, hA⟩ := hA
    obtain ⟨t15, hA⟩ := hA
    obtain ⟨t16, hA⟩ := hA
    obtain ⟨t17, hA⟩ := hA
    obtain ⟨t18, hA⟩ := hA
    obtain ⟨t19, hA⟩ := hA
    obtain ⟨t20, hA⟩ := hA
    obtain ⟨t21, hA⟩ := hA
    obtain ⟨t22, hA⟩ := hA
    obtain ⟨t23, hA⟩ := hA
    obtain ⟨t24, hA⟩ := hA
    obtain ⟨t25, hA⟩ := hA
    obtain ⟨t26, hA⟩ := hA
    obtain ⟨t27, hA⟩ := hA
    obtain ⟨t28, hA⟩ := hA
    obtain ⟨t29, hA⟩ := hA
    obtain ⟨t30, hA⟩ := hA
    obtain ⟨t31, hA⟩ := hA
    obtain ⟨t32, hA⟩ := hA
    obtain ⟨t33, hA⟩ := hA
    obtain ⟨t34, hA⟩ := hA
    obtain ⟨t35, hA⟩ := hA
    obtain ⟨t36, hA⟩ := hA
    obtain ⟨t37, hA⟩ := hA
    obtain ⟨t38, hA⟩ := hA
    subst hA
    try dsimp only
    have hrm := List.mem_of_getElem? hx
    rw [HRD.out] at hrm
    obtain ⟨_, _, hh1, hh2, hpg⟩ := reads_mem hrm
    clear hh1 hh2
    have hxW := hR.col.ext
    have HWX := Lib.hid (HWR.out mv r.1 r.2 W hxW (hm.ext hxW) (page_perm hpg))
    obtain ⟨y0, y1, y2, y3, y4, x0, x1⟩ := HCC.out _ hxW
    obtain ⟨ma, mc, rfl, _⟩ := hm.open
    have hform : ∃ a n c, ov = .slice a n c := by obtain ⟨_, ⟨rfl, _⟩ | ⟨g, cap, cur, rfl, _⟩⟩ := hR.col.own <;> exact ⟨_, _, _, rfl⟩
    obtain ⟨va, vn, vc, rfl⟩ := hform
    have hrl : rows.length ≤ 10000 := by
     have h := congrArg List.length hR.rs
     rw [List.length_map] at h
     have := lettersTo_len HB.out x k
     omega
    have HSZ := Lib.hid (show rows.length + 1 ≤ maxLen ∧ (rows.length + 1) * 32 ≤ 140737488355328 by unfold maxLen; omega)
    have HR := Lib.hid hR
    have HX := Lib.hid hx
    have HM := Lib.hid hm
    have HOO := Lib.hid hOO
    have hbz : w'.heap.size + 1 ≤ W.heap.size := by have := lt_of_cell hR.col.o; exact this
    clear hR hx hm hOO hrm hpg hrl hxW hr0 g4 g5
    have hD := fun (W1 : World) (h : Ext W W1) => (⟨h.cell d0, h.cell d1, (HR.out.col.ext' h).o⟩ : _ ∧ _ ∧ _)
    have HD := Lib.hid hD
    clear hD
    have o0 := HR.out.col.o
    rcases Decidable.em (wrongB b x r.2 = []) with hw | hw
    ·have HN := Lib.hid (lettersTo_yes HX.out hw)
     rw [hw] at HWX
     clear hw
     gi_wp2_with (first
      | (gi_at_call 50; refine (callsIn_round HWX.out).mono ?_; rintro q w2 ⟨u, rfl, hx2, hu⟩; obtain ⟨ua, uc, rfl, _⟩ := hu.open; clear d0 d1 o0 y0 y1 y2 y3 y4 x0 x1; obtain ⟨d0, d1, o0⟩ := HD.out _ hx2)
      | (gi_at_builtin; refine wpListIn_push_at E_reads rfl _ _ rfl (w'.heap.size + 1) rfl (HR.out.col.ext' hx2).own rfl (by simp) rfl (by simp [Value.oneCell']) ?_ HSZ.out.1 HSZ.out.2 (Nat.le_trans hbz hx2.size); intro g cap w5 hown5 hext5 hg5 hloc5; obtain ⟨⟨z0, z1⟩, z2, z3, z4⟩ := HR.out.col.push (Nat.le_refl _) hx2 hown5 hg5 hloc5; have HZ := Lib.hid (And.intro z2 (And.intro z3 z4)); clear z2 z3 z4 hown5 hext5 hg5 hloc5))
     refine ⟨HZ.out.1, _, HZ.out.2.1, .slice (some ⟨g, 0, none⟩) (rows.length + 1) cap, rows ++ [⟨.slice ma r.2.length mc, r.1, r.2⟩], ?_, ?_, ?_⟩
     ·rw [List.length_append, List.flatMap_append]; exact HZ.out.2.2
     ·rw [List.map_append, HR.out.rs, HN.out]; rfl
     ·intro q hq
      rcases List.mem_append.1 hq with hq | hq
      ·exact HR.out.ms q hq
      ·rw [List.mem_singleton] at hq
       subst hq
       exact HM.out
    ·have HN := Lib.hid (lettersTo_no HX.out hw)
     have hwl : (wrongB b x r.2).length ≠ 0 := fun h => hw (List.length_eq_zero_iff.1 h)
     generalize wrongB b x r.2 = L at HWX hwl
     have t1 : ((L.length : Int) == 0) = false := by rw [beq_eq_false_iff_ne]; omega
     have t2 : (L.length == 0) = false := by rw [beq_eq_false_iff_ne]; exact hwl
     clear hw
     gi_wp2_with (gi_at_call 50; refine (callsIn_round HWX.out).mono ?_; rintro q w2 ⟨u, rfl, hx2, hu⟩; obtain ⟨ua, uc, rfl, _⟩ := hu.open)
     exact ⟨Touch.of_ext hx2, O, fun i hi => ⟨.inl hi, Nat.lt_of_lt_of_le (HOO.out i hi).2 hx2.size⟩, _, rows, HR.out.col.ext' hx2, by rw [HN.out]; exact HR.out.rs, HR.out.ms⟩
   case hdone =>
    intro D O W hD hOO ⟨ov, rows, hR⟩ hd
    have hrs := hR.rs
    rw [lettersTo_all] at hrs
    have hll := congrArg List.length hrs
    rw [List.length_map] at hll
    have o0 := hR.col.o
    have hrow : RowOf rdC W ov rows := RowAt.of_owns hR.col.own
    have hq := Quiet.putObj (n := w'.heap.size) (.deferred none) hd (by omega) rfl
    have hfin : ReadsAt (W.putObj D (.deferred none)) ov (lettersB b x) := ⟨rows, hrs, hq.row hrow (rows_nb hR.ms), fun r hr => (hR.ms r hr).ext (hR.col.ext.quiet (Nat.le_refl _) hq)⟩
    have HFIN := Lib.hid hfin
    have HXE := Lib.hid (HXW.out.trans (hR.col.ext.quiet (Nat.le_refl _) hq))
    obtain ⟨va, vc, rfl, _⟩ := RowAt.open hrow
    have HDD := Lib.hid hd
    clear hfin hq hrow hR hrs hOO hr0 g4 g5 hd
    try dsimp only
    rcases Decidable.em (lettersB b x = []) with hl | hl
    ·have hL : letErr b x = 7 := by unfold letErr; rw [if_pos hz, if_pos hl]
     rw [hl] at hll
     have t1 : ((rows.length : Int) == 0) = true := by rw [hll]; rfl
     have t2 : (rows.length == 0) = true := by rw [hll]; rfl
     have HR := Lib.hid (fun (w4 : World) (h : Ext w w4) => (⟨h, .inl ⟨by rw [hL]; decide, by rw [hL]⟩⟩ : LetRes b x w (.returned (.tuple #[.slice none 0 0, .int .i64 7])) w4))
     clear hll hL hl HFIN
     go_wp2
     refine ⟨by simp, .inl ⟨_, _, rfl, run_takeDeferred HDD.out, ?_⟩⟩
     exact ⟨_, by simp [results, Tryz.results43, go_sem], HR.out _ HXE.out⟩
    ·have hL : letErr b x = 0 := by unfold letErr; rw [if_pos hz, if_neg hl]
     have hrl : rows.length ≠ 0 := fun h => hl (List.length_eq_zero_iff.1 (by have h2 : rows.length = (lettersB b x).length := hll; omega))
     have t1 : ((rows.length : Int) == 0) = false := by rw [beq_eq_false_iff_ne]; omega
     have t2 : (rows.length == 0) = false := by rw [beq_eq_false_iff_ne]; exact hrl
     have HR := Lib.hid (fun (w4 : World) (u : Value) (h : Ext w w4) (hu : ReadsAt w4 u (lettersB b x)) => (⟨h, .inr ⟨hL, u, rfl, hu⟩⟩ : LetRes b x w (.returned (.tuple #[u, .int .i64 0])) w4))
     clear hll hL hl hrl
     go_wp2
     refine ⟨by simp, .inl ⟨_, _, rfl, run_takeDeferred HDD.out, ?_⟩⟩
     exact ⟨_, by simp [results, Tryz.results43, go_sem], HR.out _ _ HXE.out HFIN.out⟩
  ·have hz0 : (askErr b (isBuyerB b x) == 0) = false := by simpa using hz
   have hL : letErr b x = askErr b (isBuyerB b x) := by unfold letErr; rw [if_neg hz]
   have hR : ∀ w', Ext w w' → LetRes b x w (.returned (.tuple #[.slice none 0 0, .int .i64 (askErr b (isBuyerB b x))])) w' := fun w' h => ⟨h, .inl ⟨by rw [hL]; exact hz, by rw [hL]⟩⟩
   have HR := Lib.hid hR
   clear hR hz hopn hL hblk y0 y1 y2 y3 y4 x0 x1 hxW
   generalize askErr b (isBuyerB b x) = zz at *
   go_wp2
   exact ⟨_, by simp [results, Tryz.results43, go_sem], HR.out _ HXW.out⟩
 | _ => exact h.elim
end Go.Proofs.YtokananogogjaaaGreatDoor

/- Which. -/
namespace Go.Proofs.YtokananogogjaaaGreatDoor
open Go.RowKit
def whichB (b : Book) (x : Buyer) : List Int := listedL ((lettersB b x).map Prod.fst)
def WhichRes (b : Book) (x : Buyer) (w : World) (e : Ending) (w' : World) : Prop :=
 Ext w w' ∧ ((letErr b x ≠ 0 ∧ e = .returned (.tuple #[.slice none 0 0, .int .i64 (letErr b x)])) ∨ (letErr b x = 0 ∧ ∃ u, e = .returned (.tuple #[u, .int .i64 0]) ∧ IntsAt w' u (whichB b x)))
theorem rd_push {r : List Rd} {F : Rd → Int} {k : Nat} {p : Rd} (h : r[k]? = some p) : ((r.take (k + 1)).map F).map (Value.int .i64) = ((r.take k).map F).map (Value.int .i64) ++ (#[Value.int .i64 (F p)] : Array Value).toList := by
 rw [List.take_add_one, h]; simp
theorem letters_len {b : Book} (hB : BookB b) (x : Buyer) : (lettersB b x).length ≤ 10000 := Nat.le_trans (List.length_filter_le _ _) (readsB_len hB x)
theorem letErr_or (b : Book) (x : Buyer) : letErr b x = 0 ∧ lettersB b x ≠ [] ∨ letErr b x ≠ 0 := by
 unfold letErr
 split
 ·split
  ·exact .inr (by decide)
  ·exact .inl ⟨rfl, by assumption⟩
 ·exact .inr (by assumption)
set_option maxRecDepth 100000 in
set_option maxHeartbeats 4000000 in
theorem Which_any (v xv : Value) (b : Book) (x : Buyer) (w : World) (hB : BookB b) (hb : BookAt w v b) (hx : BuyerAt w xv x) :
 Calls Tryz.prog 15 #[v, xv] w (WhichRes b x w) := by
 have HLE := Lib.hid (fun W1 (h : Ext w W1) => letters_any v xv b x W1 hB (hb.ext h) (hx.ext h))
 obtain ⟨ga, gc, ea, ec, rfl, hgl, hel⟩ := hb.open
 obtain ⟨la, lc, rfl, hl1, hl2, hlr⟩ := hx.open
 obtain ⟨W, hW⟩ : ∃ W, W = (w.alloc (bookBox (.slice ga b.goods.length gc) b (.slice ea b.entries.length ec))).alloc (.cells #[.int .i64 x.editions, .slice la x.letters.length lc] 28) := ⟨_, rfl⟩
 have hx0 : Ext w W := by rw [hW]; exact ((Ext.refl w).alloc _).alloc _
 have HX0 := Lib.hid hx0
 have c0 : W.cell? ⟨w.heap.size, 0, none⟩ = some (.slice ga b.goods.length gc) := by rw [hW]; go_simp
 have c1 : W.cell? ⟨w.heap.size, 1, none⟩ = some (.int .i64 b.editions) := by rw [hW]; go_simp
 have c2 : W.cell? ⟨w.heap.size, 2, none⟩ = some (.int .i64 b.moves) := by rw [hW]; go_simp
 have c3 : W.cell? ⟨w.heap.size, 3, none⟩ = some (.slice ea b.entries.length ec) := by rw [hW]; go_simp
 have c4 : W.cell? ⟨w.heap.size + 1, 0, none⟩ = some (.int .i64 x.editions) := by rw [hW]; go_simp
 have c5 : W.cell? ⟨w.heap.size + 1, 1, none⟩ = some (.slice la x.letters.length lc) := by rw [hW]; go_simp
 have HLL := Lib.hid (letters_len hB x)
 clear hb hx hx0 hgl hel hl1 hl2 hlr hB
 rcases letErr_or b x with ⟨hz, hne⟩ | hz
 ·have hR : ∀ w' u, Ext w w' → IntsAt w' u (whichB b x) → WhichRes b x w (.returned (.tuple #[u, .int .i64 0])) w' := fun w' u h hu => ⟨h, .inr ⟨hz, u, rfl, hu⟩⟩
  have HR := Lib.hid hR
  have HL2 := Lib.hid (fun W1 (h : Ext w W1) => (HLE.out W1 h).mono (fun e w' (he : LetRes b x W1 e w') => (he.2.elim (fun q => absurd hz q.1) (fun q => (let ⟨_, u, h1, rows, h2, h3, h4⟩ := q; ⟨u, rows, h1, he.1, h2, h3, h4⟩)) : ∃ (u : Value) (rows : List Rd), e = .returned (.tuple #[u, .int .i64 0]) ∧ Ext W1 w' ∧ rows.map (fun r => (r.e, r.l)) = lettersB b x ∧ RowOf rdC w' u rows ∧ ∀ r, r ∈ rows → IntsAt w' r.v r.l)))
  have HNE := Lib.hid hne
  clear hR HLE hz hne
  go_enter Tryz.func15, Tryz.ntmps15
  go_upto_region 1 with fail
  unfold bookBox at hW
  rw [← hW]
  clear hW
  go_upto_region 4 with (go_at_call 43; refine (HL2.out _ HX0.out).mono ?_; rintro r w2 ⟨u, rows, rfl, hx2, hrs, hrow, hms⟩; obtain ⟨ua, uc, rfl, l1, l2, l3⟩ := RowOf.open2 (f := rdC) (fun _ => rfl) hrow; clear hrow c0 c1 c2 c3 c4 c5)
  have HL3 := Lib.hid l3
  have HMS := Lib.hid hms
  have HX2 := Lib.hid (HX0.out.trans hx2)
  have hll := congrArg List.length hrs
  rw [List.length_map] at hll
  have hlen : rows.length ≤ 10000 := by have := HLL.out; omega
  have hl0 : 0 < rows.length := by have := List.length_pos_iff.2 HNE.out; omega
  have HSP : Hid (listedL (rows.map Rd.e) = whichB b x) := by unfold Hid whichB; rw [← hrs, List.map_map]; rfl
  clear l3 hms hx2 hrs hll
  go_wp2
  go_loopw [8, 22] (fun o j wr => ∃ k : Nat, k ≤ rows.length ∧ j = .int .i64 (k : Int) ∧ wr.ownsRow w2.heap.size 3 1 o k (((rows.take k).map Rd.e).map (.int .i64)) ∧ Ext w2 wr) (fun _ j _ => rows.length - (intOf j).toNat)
  case atStart => exact ⟨0, Nat.zero_le _, rfl, World.ownsRow_nil _ _ _ _, Ext.refl _⟩
  case round =>
   obtain ⟨k, hk, rfl, hown, hx⟩ := hrel
   by_cases hlt : k < rows.length
   ·obtain ⟨bb, bo, p, rfl, hpk, d0, d1⟩ := HL3.out k hlt
    obtain ⟨ma, mc, hmv, _⟩ := (HMS.out p (List.mem_of_getElem? hpk.out)).open
    rw [hmv] at d1
    have g0 := hx.cell d0
    have g1 := hx.cell d1
    have HNP := Lib.hid (rd_push (F := Rd.e) hpk.out)
    have k1 : (0 : Int) ≤ (k : Int) := by omega
    have k2 : (k : Int) < (rows.length : Int) := by omega
    have HSZ := Lib.hid (show k + 1 ≤ maxLen ∧ (k + 1) * 8 ≤ 140737488355328 by unfold maxLen; omega)
    have hx3 : Ext wr (wr.alloc (.cells #[.int .i64 p.e, .slice ma p.l.length mc] 91)) := (Ext.refl wr).alloc _
    obtain ⟨_, _, rfl, _⟩ := RowAt.open (RowAt.of_owns hown)
    have HOWN := Lib.hid hown
    have HX := Lib.hid hx
    clear hown hx hpk hmv d0 d1
    go_wp2_with (at_builtin; refine wpList_push_at E_ints rfl _ _ rfl w2.heap.size rfl (owns_ext HOWN.out hx3) rfl (by simp) rfl (by simp [Value.oneCell']) ?_ HSZ.out.1 HSZ.out.2 (HX.out.trans hx3).size; intro g cap w5 hown5 hext5 hg5 hloc5)
    go_roundw
    case rel => exact ⟨k + 1, by omega, by go_num, by rw [HNP.out]; exact hown5, hext5 _ (HX.out.trans hx3) (Nat.le_refl _)⟩
    case measure => simp [intOf]; omega
   ·have hke : rows.take k = rows := List.take_of_length_le (by omega)
    rw [hke] at hown
    have hkl : k = (rows.map Rd.e).length := by rw [List.length_map]; omega
    have hll : 0 < (rows.map Rd.e).length ∧ (rows.map Rd.e).length ≤ 100000 := by rw [List.length_map]; omega
    rw [hkl] at hown
    generalize (rows.map Rd.e) = L at hown hkl hll HSP
    have HIN := Lib.hid (IntsAt.of_owns hown)
    have HLI := Lib.hid (fun v hv => listed_any v L wr hv hll.1 hll.2)
    obtain ⟨_, _, rfl, _⟩ := HIN.out.open
    have HX := Lib.hid hx
    have HM := Lib.hid (HLI.out _ HIN.out)
    rw [HSP.out] at HM
    clear hown hx HLI hkl hke hll
    go_wp2_with (go_at_call 44; refine HM.out.mono ?_; rintro e w5 ⟨u, rfl, hx5, hu⟩)
    go_ret2
    exact HR.out _ _ ((HX2.out.trans HX.out).trans hx5) hu
 ·have hR : ∀ w', Ext w w' → WhichRes b x w (.returned (.tuple #[.slice none 0 0, .int .i64 (letErr b x)])) w' := fun w' h => ⟨h, .inl ⟨hz, rfl⟩⟩
  have HR := Lib.hid hR
  have HL2 := Lib.hid (fun W1 (h : Ext w W1) => (HLE.out W1 h).mono (fun e w' (he : LetRes b x W1 e w') => (he.2.elim (fun q => ⟨q.2, he.1⟩) (fun q => absurd q.1 hz) : e = .returned (.tuple #[.slice none 0 0, .int .i64 (letErr b x)]) ∧ Ext W1 w')))
  have hz0 : (letErr b x == 0) = false := by simpa using hz
  clear hR HLE hz HLL
  generalize letErr b x = zz at *
  go_enter Tryz.func15, Tryz.ntmps15
  go_upto_region 1 with fail
  unfold bookBox at hW
  rw [← hW]
  clear hW
  go_wp2_with (go_at_call 43; refine (HL2.out _ HX0.out).mono ?_; rintro r w2 ⟨rfl, hx2⟩)
  go_ret2
  exact HR.out _ (HX0.out.trans hx2)
end Go.Proofs.YtokananogogjaaaGreatDoor
