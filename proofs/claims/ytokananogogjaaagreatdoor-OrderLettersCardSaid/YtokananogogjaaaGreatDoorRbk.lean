/- The reference's in, Pieces, Edition, Good, IsPacks. -/
import Derived.Test.YtokananogogjaaaGreatDoorOpk
import Derived.Test.YtokananogogjaaaGreatDoorOc
namespace Go.Proofs.YtokananogogjaaaGreatDoor
open Go.RowKit
theorem rin_any (x lo hi : Int) (w : World) :
  Calls Tryz.prog 24 #[.int .i64 x, .int .i64 lo, .int .i64 hi] w fun e w' => e = .returned (.bool (inB x lo hi)) ∧ w = w' := by
 go_enter Tryz.func24, Tryz.ntmps24
 go_wp2
 all_goals go_ret
 all_goals simp [inB, *]
 omega
theorem redition_any (ga ea : Option Addr) (gn gc en ec : Nat) (b : Book) (n : Int) (w : World) :
  Calls Tryz.prog 11 #[.agg #[.slice ga gn gc, .int .i64 b.editions, .int .i64 b.moves, .slice ea en ec], .int .i64 n] w fun e w' => e = .returned (.bool (isEditionW b n)) ∧ Ext w w' := by
 unfold isEditionW
 go_enter Tryz.func11, Tryz.ntmps11
 go_wp2_with (go_at_call 24; refine (rin_any _ _ _ _).mono ?_; rintro e w' ⟨rfl, rfl⟩)
 go_ret
 exact ⟨rfl, (Ext.refl w).alloc _⟩
theorem rgood_any (ga ea : Option Addr) (gc en ec : Nat) (b : Book) (n : Int) (w : World) (hg : b.goods.length ≤ 9223372036854775807) :
  Calls Tryz.prog 25 #[.agg #[.slice ga b.goods.length gc, .int .i64 b.editions, .int .i64 b.moves, .slice ea en ec], .int .i64 n] w fun e w' => e = .returned (.bool (isNumberB b n)) ∧ Ext w w' := by
 go_enter Tryz.func25, Tryz.ntmps25
 go_wp2_with (go_at_call 24; refine (rin_any _ _ _ _).mono ?_; rintro e w' ⟨rfl, rfl⟩)
 go_ret
 exact ⟨rfl, (Ext.refl w).alloc _⟩
theorem any_take {α : Type} {p : α → Bool} {l : List α} {k : Nat} {x : α} (h : l[k]? = some x) (ha : (l.take k).any p = false) (hx : p x = false) : (l.take (k + 1)).any p = false := by
 rw [List.take_add_one, h, List.any_append, ha]; simp [hx]
theorem any_at {α : Type} {p : α → Bool} {l : List α} {k : Nat} {x : α} (h : l[k]? = some x) (hx : p x = true) : l.any p = true := List.any_eq_true.2 ⟨x, List.mem_of_getElem? h, hx⟩
end Go.Proofs.YtokananogogjaaaGreatDoor

/- The reference's Book; the law's short, listed. -/
namespace Go.Proofs.YtokananogogjaaaGreatDoor
open Go.RowKit
def shortB (b : Book) : Bool := decide (b.goods.length ≤ 6) && decide (b.entries.length ≤ 11)
set_option maxRecDepth 100000 in
theorem short_any (v : Value) (b : Book) (w : World) (hb : BookAt w v b) : Calls Tryz.prog 5 #[v] w fun e w' => e = .returned (.bool (shortB b)) ∧ Ext w w' := by
 obtain ⟨ga, gc, ea, ec, rfl, hgl, hel⟩ := hb.open
 clear hb
 unfold shortB
 cases i1 : decide (b.goods.length ≤ 6) with
 | false =>
  have t1 : decide ((b.goods.length : Int) ≤ 6) = false := by rw [decide_eq_false_iff_not] at *; omega
  go_enter Tryz.func5, Tryz.ntmps5
  go_wp2
  go_ret
  exact ⟨rfl, (Ext.refl w).alloc _⟩
 | true =>
  have t1 : decide ((b.goods.length : Int) ≤ 6) = true := by rw [decide_eq_true_eq] at *; omega
  cases i2 : decide (b.entries.length ≤ 11) with
  | false =>
   have t2 : decide ((b.entries.length : Int) ≤ 11) = false := by rw [decide_eq_false_iff_not] at *; omega
   go_enter Tryz.func5, Tryz.ntmps5
   go_wp2
   go_ret
   exact ⟨rfl, (Ext.refl w).alloc _⟩
  | true =>
   have t2 : decide ((b.entries.length : Int) ≤ 11) = true := by rw [decide_eq_true_eq] at *; omega
   go_enter Tryz.func5, Tryz.ntmps5
   go_wp2
   go_ret
   exact ⟨rfl, (Ext.refl w).alloc _⟩
def listedB (l : List Int) (n : Int) : Bool := l.any fun x => x == n
set_option maxRecDepth 100000 in
theorem llisted_any (v : Value) (l : List Int) (n : Int) (w : World) (hv : IntsAt w v l) : Calls Tryz.prog 19 #[v, .int .i64 n] w fun e w' => e = .returned (.bool (listedB l n)) ∧ w = w' := by
 obtain ⟨a, c, rfl, h1, h2, h3⟩ := hv.open
 have H3 := Lib.hid h3
 clear hv h3
 go_enter Tryz.func19, Tryz.ntmps19
 go_wp2
 go_loop [5] (fun i => ∃ k : Nat, k ≤ l.length ∧ i = .int .i64 (k : Int) ∧ Hid ((l.take k).any (fun x => x == n) = false)) (fun i => l.length - (intOf i).toNat)
 case atStart => exact ⟨0, Nat.zero_le _, rfl, by simp [Hid]⟩
 case round =>
  obtain ⟨k, hk, rfl, ha⟩ := hrel
  by_cases hlt : k < l.length
  ·obtain ⟨b, o, x, rfl, hx, c0⟩ := H3.out k hlt
   have k1 : (0 : Int) ≤ (k : Int) := by omega
   have k2 : (k : Int) < (l.length : Int) := by omega
   cases i1 : (x == n) with
   | true =>
    have HR : Hid (listedB l n = true) := any_at hx.out i1
    clear ha hx
    go_wp2
    go_ret
    exact ⟨by rw [HR.out] <;> rfl, rfl⟩
   | false =>
    have HA := Lib.hid (any_take hx.out ha.out (show (fun x => x == n) x = false from i1))
    clear ha hx
    go_wp2
    go_round
    case rel => exact ⟨k + 1, by omega, by go_num, HA.out⟩
    case measure => simp [intOf]; omega
  ·have ha2 := ha.out
   rw [List.take_of_length_le (by omega)] at ha2
   have HR : Hid (listedB l n = false) := ha2
   clear ha ha2
   go_wp2
   go_ret
   exact ⟨by rw [HR.out] <;> rfl, rfl⟩
set_option maxRecDepth 100000 in
set_option maxHeartbeats 4000000 in
theorem rbook_any (v : Value) (b : Book) (w : World) (hb : BookAt w v b) :
  Calls Tryz.prog 7 #[v] w fun e w' => e = .returned (.bool (isBookB b)) ∧ Ext w w' := by
 rw [← bookW]
 have hb0 := hb
 obtain ⟨ga, gc, ea, ec, rfl, hgl, hel⟩ := hb.open
 obtain ⟨_, _, hv, hg, he⟩ := hb0
 cases hv
 obtain ⟨g1, g2, hgv, _, _, hg3⟩ := hg.open
 cases hgv
 obtain ⟨e1, e2, hev, _, _, he3⟩ := RowOf.open3 (f := entryC) (f0 := fun x => .int .i64 x.1) (f1 := fun x => .int .i64 x.2.1) (f2 := fun x => .int .i64 x.2.2) (fun _ => rfl) he
 cases hev
 obtain ⟨W, HW⟩ : ∃ W, Hid (W = w.alloc (bookBox (.slice ga b.goods.length gc) b (.slice ea b.entries.length ec))) := ⟨_, rfl⟩
 have HX0 := Lib.hid (show Ext w W by rw [HW.out]; exact (Ext.refl w).alloc _)
 have HF := Lib.hid (fun W1 (h : Ext W W1) => BoxAt.ext (show BoxAt W w.heap.size (.slice ga b.goods.length gc) b (.slice ea b.entries.length ec) by rw [HW.out]; exact BoxAt.new _ _ _ _) h)
 have HG3 := Lib.hid hg3
 have HE3 := Lib.hid he3
 have HED := Lib.hid (fun n W1 => redition_any ga ea b.goods.length gc b.entries.length ec b n W1)
 have HGD := Lib.hid (fun n W1 => rgood_any ga ea gc b.entries.length ec b n W1 hgl)
 clear hb hg he hg3 he3
 go_enter Tryz.func7, Tryz.ntmps7
 go_upto_region 1 with fail
 rw [← HW.out]
 have hq := Ext.refl W
 obtain ⟨b0, b1, b2, b3⟩ := HF.out _ hq
 cases i1 : inB (b.goods.length : Int) 2 5 with
 | false =>
  have HN : Hid (isBookW b = false) := by unfold Hid isBookW; rw [i1]; rfl
  go_wp2_with (first | (go_at_call 24; refine (rin_any _ _ _ _).mono ?_; rintro e w' ⟨rfl, rfl⟩))
  go_ret
  exact ⟨by rw [HN.out] <;> rfl, HX0.out.trans hq⟩
 | true =>
 cases i2 : inB b.editions 1 3 with
 | false =>
  have HN : Hid (isBookW b = false) := by unfold Hid isBookW; rw [i1, i2]; rfl
  go_wp2_with (first | (go_at_call 24; refine (rin_any _ _ _ _).mono ?_; rintro e w' ⟨rfl, rfl⟩))
  go_ret
  exact ⟨by rw [HN.out] <;> rfl, HX0.out.trans hq⟩
 | true =>
 cases i3 : inB b.moves 0 5 with
 | false =>
  have HN : Hid (isBookW b = false) := by unfold Hid isBookW; rw [i1, i2, i3]; rfl
  go_wp2_with (first | (go_at_call 24; refine (rin_any _ _ _ _).mono ?_; rintro e w' ⟨rfl, rfl⟩))
  go_ret
  exact ⟨by rw [HN.out] <;> rfl, HX0.out.trans hq⟩
 | true =>
 cases i4 : decide ((b.entries.length : Int) ≤ 8) with
 | false =>
  have HN : Hid (isBookW b = false) := by unfold Hid isBookW; rw [i1, i2, i3, i4]; rfl
  have t4 : decide ((8 : Int) < (b.entries.length : Int)) = true := by simp at i4 ⊢; omega
  go_wp2_with (first | (go_at_call 24; refine (rin_any _ _ _ _).mono ?_; rintro e w' ⟨rfl, rfl⟩))
  go_ret
  exact ⟨by rw [HN.out] <;> rfl, HX0.out.trans hq⟩
 | true =>
 have t4 : decide ((8 : Int) < (b.entries.length : Int)) = false := by simp at i4 ⊢; omega
 have HN : Hid (isBookW b = (!(b.goods.any fun l => !inB l 1 99) && !(b.entries.any (badEntryW b)))) := by unfold Hid isBookW; rw [i1, i2, i3, i4]; simp
 go_wp2_with (first | (go_at_call 24; refine (rin_any _ _ _ _).mono ?_; rintro e w' ⟨rfl, rfl⟩))
 clear i1 i2 i3 i4
 go_loopw [3] (fun i wr => ∃ k : Nat, k ≤ b.goods.length ∧ i = .int .i64 (k : Int) ∧ Hid ((b.goods.take k).any (fun l => !inB l 1 99) = false) ∧ Ext W wr) (fun i _ => b.goods.length - (intOf i).toNat)
 case atStart => exact ⟨0, Nat.zero_le _, rfl, by simp [Hid], hq⟩
 case round =>
  clear b0 b1 b2 b3 hq
  obtain ⟨k, hk, rfl, ha, hx⟩ := hrel
  obtain ⟨b0, b1, b2, b3⟩ := HF.out _ hx
  by_cases hlt : k < b.goods.length
  ·obtain ⟨bb, o, x, rfl, hxk, c0⟩ := HG3.out k hlt
   have d0 := (HX0.out.trans hx).cell c0
   have k1 : (0 : Int) ≤ (k : Int) := by omega
   have k2 : (k : Int) < (b.goods.length : Int) := by omega
   have x2 : decide ((k : Int) < (b.goods.length : Int)) = true := by simpa using hlt
   have H1 := Lib.hid (fun W => rin_any x 1 99 W)
   cases i1 : inB x 1 99 with
   | false =>
    rw [i1] at H1
    have HR : Hid (isBookW b = false) := by unfold Hid; rw [HN.out, any_at hxk.out (show (fun l => !inB l 1 99) x = true by simp [i1])]; rfl
    clear i1 ha hxk c0
    go_wp2_with (go_at_call 24; refine (H1.out _).mono ?_; rintro e w' ⟨rfl, rfl⟩)
    go_ret
    exact ⟨by rw [HR.out] <;> rfl, HX0.out.trans hx⟩
   | true =>
    rw [i1] at H1
    have HA := Lib.hid (any_take hxk.out ha.out (show (fun l => !inB l 1 99) x = false by simp [i1]))
    clear i1 ha hxk c0
    go_wp2_with (go_at_call 24; refine (H1.out _).mono ?_; rintro e w' ⟨rfl, rfl⟩)
    go_roundw
    case rel => exact ⟨k + 1, by omega, by go_num, HA.out, hx⟩
    case measure => simp [intOf]; omega
  ·have ha2 := ha.out
   rw [List.take_of_length_le (by omega)] at ha2
   have HN2 : Hid (isBookW b = !(b.entries.any (badEntryW b))) := by unfold Hid; rw [HN.out, ha2]; simp
   have hke : k = b.goods.length := by omega
   subst hke
   have x2 : decide ((b.goods.length : Int) < (b.goods.length : Int)) = false := by simp
   clear ha ha2 HN
   go_wp2
   go_loopw [4] (fun i wr => ∃ k : Nat, k ≤ b.entries.length ∧ i = .int .i64 (k : Int) ∧ Hid ((b.entries.take k).any (badEntryW b) = false) ∧ Ext W wr) (fun i _ => b.entries.length - (intOf i).toNat)
   case atStart => exact ⟨0, Nat.zero_le _, rfl, by simp [Hid], hx⟩
   case round =>
    clear b0 b1 b2 b3 hx
    obtain ⟨k, hk, rfl, ha, hx⟩ := hrel
    obtain ⟨b0, b1, b2, b3⟩ := HF.out _ hx
    by_cases hle : k < b.entries.length
    ·obtain ⟨bb, o, x, rfl, hxk, q0, q1, q2⟩ := HE3.out k hle
     have d0 := (HX0.out.trans hx).cell q0
     have d1 := (HX0.out.trans hx).cell q1
     have d2 := (HX0.out.trans hx).cell q2
     have k1 : (0 : Int) ≤ (k : Int) := by omega
     have k2 : (k : Int) < (b.entries.length : Int) := by omega
     have x3 : decide ((k : Int) < (b.entries.length : Int)) = true := by simpa using hle
     go_upto_region 12 with fail
     obtain ⟨wa, hwa⟩ : ∃ wa : World, wa = wr.alloc (.cells #[.int .i64 x.1, .int .i64 x.2.1, .int .i64 x.2.2] 64) := ⟨_, rfl⟩
     have hxa : Ext wr wa := by rw [hwa]; exact (Ext.refl _).alloc _
     have HCC := Lib.hid (fun W1 (h : Ext wa W1) => (⟨h.cell (by rw [hwa]; go_simp), h.cell (by rw [hwa]; go_simp), h.cell (by rw [hwa]; go_simp), HF.out _ (hx.trans (hxa.trans h))⟩ : W1.cell? ⟨wr.heap.size, 0, none⟩ = some (.int .i64 x.1) ∧ W1.cell? ⟨wr.heap.size, 1, none⟩ = some (.int .i64 x.2.1) ∧ W1.cell? ⟨wr.heap.size, 2, none⟩ = some (.int .i64 x.2.2) ∧ BoxAt W1 w.heap.size (.slice ga b.goods.length gc) b (.slice (some ⟨bb, o, none⟩) b.entries.length ec)))
     rw [← hwa]
     have HXA := Lib.hid (hx.trans hxa)
     clear hwa d0 d1 d2 q0 q1 q2 b0 b1 b2 b3 hx hxa
     obtain ⟨c0, c1, c2, b0, b1, b2, b3⟩ := HCC.out _ (Ext.refl _)
     have hxc := Ext.refl wa
     have HE1 := Lib.hid (fun W1 => HED.out x.1 W1)
     have HG1 := Lib.hid (fun W1 => HGD.out x.2.1 W1)
     have HG2 := Lib.hid (fun W1 => HGD.out x.2.2 W1)
     have ebad : badEntryW b x = (!isEditionW b x.1 || !isNumberB b x.2.1 || !isNumberB b x.2.2) := rfl
     cases i1 : isEditionW b x.1 with
     | false =>
      rw [i1] at HE1
      have HR : Hid (isBookW b = false) := by unfold Hid; rw [HN2.out, any_at hxk.out (by rw [ebad, i1]; rfl)]; rfl
      clear i1 ha hxk ebad
      go_wp2_with (first | (go_at_call 11; refine (HE1.out _).mono ?_; rintro e w' ⟨rfl, hxs⟩; have hxc := hxc.trans hxs; clear hxs HE1; obtain ⟨c0, c1, c2, b0, b1, b2, b3⟩ := HCC.out _ hxc))
      go_ret
      exact ⟨by rw [HR.out] <;> rfl, HX0.out.trans (HXA.out.trans hxc)⟩
     | true =>
      rw [i1] at HE1
      cases i2 : isNumberB b x.2.1 with
      | false =>
       rw [i2] at HG1
       have HR : Hid (isBookW b = false) := by unfold Hid; rw [HN2.out, any_at hxk.out (by rw [ebad, i1, i2]; rfl)]; rfl
       clear i1 i2 ha hxk ebad
       go_wp2_with (first | (go_at_call 11; refine (HE1.out _).mono ?_; rintro e w' ⟨rfl, hxs⟩; have hxc := hxc.trans hxs; clear hxs HE1; obtain ⟨c0, c1, c2, b0, b1, b2, b3⟩ := HCC.out _ hxc) | (go_at_call 25; refine (HG1.out _).mono ?_; rintro e w' ⟨rfl, hxs⟩; have hxc := hxc.trans hxs; clear hxs HG1; obtain ⟨c0, c1, c2, b0, b1, b2, b3⟩ := HCC.out _ hxc))
       go_ret
       exact ⟨by rw [HR.out] <;> rfl, HX0.out.trans (HXA.out.trans hxc)⟩
      | true =>
       rw [i2] at HG1
       cases i3 : isNumberB b x.2.2 with
       | false =>
        rw [i3] at HG2
        have HR : Hid (isBookW b = false) := by unfold Hid; rw [HN2.out, any_at hxk.out (by rw [ebad, i1, i2, i3]; rfl)]; rfl
        clear i1 i2 i3 ha hxk ebad
        go_wp2_with (first | (go_at_call 11; refine (HE1.out _).mono ?_; rintro e w' ⟨rfl, hxs⟩; have hxc := hxc.trans hxs; clear hxs HE1; obtain ⟨c0, c1, c2, b0, b1, b2, b3⟩ := HCC.out _ hxc) | (go_at_call 25; refine (HG1.out _).mono ?_; rintro e w' ⟨rfl, hxs⟩; have hxc := hxc.trans hxs; clear hxs HG1; obtain ⟨c0, c1, c2, b0, b1, b2, b3⟩ := HCC.out _ hxc) | (go_at_call 25; refine (HG2.out _).mono ?_; rintro e w' ⟨rfl, hxs⟩; have hxc := hxc.trans hxs; clear hxs HG2; obtain ⟨c0, c1, c2, b0, b1, b2, b3⟩ := HCC.out _ hxc))
        go_ret
        exact ⟨by rw [HR.out] <;> rfl, HX0.out.trans (HXA.out.trans hxc)⟩
       | true =>
        rw [i3] at HG2
        have HA := Lib.hid (any_take hxk.out ha.out (show badEntryW b x = false by rw [ebad, i1, i2, i3]; rfl))
        clear i1 i2 i3 ha hxk ebad
        go_wp2_with (first | (go_at_call 11; refine (HE1.out _).mono ?_; rintro e w' ⟨rfl, hxs⟩; have hxc := hxc.trans hxs; clear hxs HE1; obtain ⟨c0, c1, c2, b0, b1, b2, b3⟩ := HCC.out _ hxc) | (go_at_call 25; refine (HG1.out _).mono ?_; rintro e w' ⟨rfl, hxs⟩; have hxc := hxc.trans hxs; clear hxs HG1; obtain ⟨c0, c1, c2, b0, b1, b2, b3⟩ := HCC.out _ hxc) | (go_at_call 25; refine (HG2.out _).mono ?_; rintro e w' ⟨rfl, hxs⟩; have hxc := hxc.trans hxs; clear hxs HG2; obtain ⟨c0, c1, c2, b0, b1, b2, b3⟩ := HCC.out _ hxc))
        go_roundw
        case rel => exact ⟨k + 1, by omega, by go_num, HA.out, HXA.out.trans hxc⟩
        case measure => simp [intOf]; omega
    ·have ha2 := ha.out
     rw [List.take_of_length_le (by omega)] at ha2
     have HR : Hid (isBookW b = true) := by unfold Hid; rw [HN2.out, ha2]; rfl
     have hke : k = b.entries.length := by omega
     subst hke
     have x3 : decide ((b.entries.length : Int) < (b.entries.length : Int)) = false := by simp
     clear ha ha2
     go_wp2
     go_ret
     exact ⟨by rw [HR.out] <;> rfl, HX0.out.trans hx⟩
theorem editionW {b : Book} (h : BookB b) (n : Int) : isEditionW b n = isEditionB b n := by
 unfold isEditionW isEditionB
 rw [IntWalk.wrap64_in _ (by have := h.e1; have := h.e3; omega)]
theorem calls_ext {P : Program} {f : Nat} {args : Array Value} {w : World} {v : Value} (h : Calls P f args w fun e w' => e = .returned v ∧ w = w') : Calls P f args w fun e w' => e = .returned v ∧ Ext w w' := h.mono fun _ _ q => ⟨q.1, q.2 ▸ Ext.refl _⟩
end Go.Proofs.YtokananogogjaaaGreatDoor
