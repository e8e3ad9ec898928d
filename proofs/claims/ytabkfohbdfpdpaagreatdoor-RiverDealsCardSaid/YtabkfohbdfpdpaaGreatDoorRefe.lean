/- The reference's Deals. -/
import Derived.Test.YtabkfohbdfpdpaaGreatDoorReads
import Derived.Test.YtabkfohbdfpdpaaGreatDoorRefd
import Derived.Test.YtabkfohbdfpdpaaGreatDoorDealr8
namespace Go.Proofs.YtabkfohbdfpdpaaGreatDoor
open Go.RowKit

/-! ### In plain Lean -/
theorem sumI_app : ∀ (ts : List Take) (ns : List Int) (t : Take) (n i : Int), ts.length = ns.length → sumI (ts ++ [t]) (ns ++ [n]) i = sumI ts ns i + (if n = i then t.many else 0)
  | [], [], t, n, i, _ => by show _ + (0 : Int) = 0 + _; omega
  | t' :: ts, n' :: ns, t, n, i, h => by
    have ih := sumI_app ts ns t n i (by simpa using h)
    show (if n' = i then t'.many else 0) + sumI (ts ++ [t]) (ns ++ [n]) i = ((if n' = i then t'.many else 0) + sumI ts ns i) + _
    rw [ih]; omega
  | [], _ :: _, _, _, _, h => by simp at h
  | _ :: _, [], _, _, _, h => by simp at h
theorem goodI_app (b : Book) (x : Licence) : ∀ (ts : List Take) (ns : List Int) (t : Take) (n i : Int), ts.length = ns.length → goodI b x (ts ++ [t]) (ns ++ [n]) i = (goodI b x ts ns i && (decide (n ≠ i) || goodB b x t))
  | [], [], t, n, i, _ => by show (_ && true) = (true && _); rw [Bool.and_true, Bool.true_and]
  | t' :: ts, n' :: ns, t, n, i, h => by
    have ih := goodI_app b x ts ns t n i (by simpa using h)
    show ((decide (n' ≠ i) || goodB b x t') && goodI b x (ts ++ [t]) (ns ++ [n]) i) = (((decide (n' ≠ i) || goodB b x t') && goodI b x ts ns i) && _)
    rw [ih, Bool.and_assoc]
  | [], _ :: _, _, _, _, h => by simp at h
  | _ :: _, [], _, _, _, h => by simp at h
def sumTo (ts : List Take) (d : List Int) (i : Int) (p : Nat) : Int := sumI (ts.take p) (d.take p) i
def goodTo (b : Book) (x : Licence) (ts : List Take) (d : List Int) (i : Int) (p : Nat) : Bool := goodI b x (ts.take p) (d.take p) i
theorem sumTo_succ {ts : List Take} {d : List Int} {p : Nat} {t : Take} {n i : Int} (ht : ts[p]? = some t) (hd : d[p]? = some n) : sumTo ts d i (p + 1) = sumTo ts d i p + (if n = i then t.many else 0) := by
  have h1 := (List.getElem?_eq_some_iff.1 ht).1
  have h2 := (List.getElem?_eq_some_iff.1 hd).1
  unfold sumTo
  rw [List.take_add_one, List.take_add_one, ht, hd]
  exact sumI_app _ _ _ _ _ (by rw [List.length_take, List.length_take]; omega)
theorem goodTo_succ {b : Book} {x : Licence} {ts : List Take} {d : List Int} {p : Nat} {t : Take} {n i : Int} (ht : ts[p]? = some t) (hd : d[p]? = some n) : goodTo b x ts d i (p + 1) = (goodTo b x ts d i p && (decide (n ≠ i) || goodB b x t)) := by
  have h1 := (List.getElem?_eq_some_iff.1 ht).1
  have h2 := (List.getElem?_eq_some_iff.1 hd).1
  unfold goodTo
  rw [List.take_add_one, List.take_add_one, ht, hd]
  exact goodI_app b x _ _ _ _ _ (by rw [List.length_take, List.length_take]; omega)
theorem goodI_take (b : Book) (x : Licence) : ∀ (ts : List Take) (ns : List Int) (i : Int), goodI b x (ts.take ns.length) ns i = goodI b x ts ns i
  | [], ns, i => by rw [List.take_nil]
  | t :: ts, [], i => rfl
  | t :: ts, n :: ns, i => by
    show ((decide (n ≠ i) || goodB b x t) && goodI b x (ts.take ns.length) ns i) = ((decide (n ≠ i) || goodB b x t) && goodI b x ts ns i)
    rw [goodI_take b x ts ns i]
theorem sumI_take : ∀ (ts : List Take) (ns : List Int) (i : Int), sumI (ts.take ns.length) ns i = sumI ts ns i
  | [], ns, i => by rw [List.take_nil]
  | t :: ts, [], i => rfl
  | t :: ts, n :: ns, i => by
    show (if n = i then t.many else 0) + sumI (ts.take ns.length) ns i = (if n = i then t.many else 0) + sumI ts ns i
    rw [sumI_take ts ns i]
theorem goodTo_all (b : Book) (x : Licence) (ts : List Take) (d : List Int) (i : Int) : goodTo b x ts d i d.length = goodI b x ts d i := by
  unfold goodTo; rw [List.take_length]; exact goodI_take b x ts d i
theorem sumTo_all (ts : List Take) (d : List Int) (i : Int) : sumTo ts d i d.length = sumI ts d i := by
  unfold sumTo; rw [List.take_length]; exact sumI_take ts d i
theorem goodI_at (b : Book) (x : Licence) : ∀ (ts : List Take) (d : List Int) (i : Int) (p : Nat) (t : Take), goodI b x ts d i = true → ts[p]? = some t → d[p]? = some i → goodB b x t = true
  | [], _, _, _, _, _, h, _ => by simp at h
  | _ :: _, [], _, _, _, _, _, h => by simp at h
  | t' :: ts, n :: ns, i, 0, t, h, h1, h2 => by
    obtain rfl : t' = t := by simpa using h1
    obtain rfl : n = i := by simpa using h2
    have h' : ((decide (n ≠ n) || goodB b x t') && goodI b x ts ns n) = true := h
    rw [decide_eq_false (by simp), Bool.false_or, Bool.and_eq_true] at h'
    exact h'.1
  | t' :: ts, n :: ns, i, p + 1, t, h, h1, h2 => by
    have h' : ((decide (n ≠ i) || goodB b x t') && goodI b x ts ns i) = true := h
    rw [Bool.and_eq_true] at h'
    exact goodI_at b x ts ns i p t h'.2 (by simpa using h1) (by simpa using h2)
theorem rdeals_no {b : Book} {l : List Licence} {ts : List Take} {d : List Int} {i : Nat} (hi : i < l.length) (h : goodI b (licAt l i) ts d (i : Int) = false ∨ (licAt l i).quota < sumI ts d (i : Int)) : rdealsB b l ts d = false := by
  rw [Bool.eq_false_iff]
  intro hc
  unfold rdealsB at hc
  rw [List.all_eq_true] at hc
  have := hc i (List.mem_range.2 hi)
  rw [Bool.and_eq_true, decide_eq_true_eq] at this
  rcases h with h | h
  · rw [h] at this; exact Bool.noConfusion this.1
  · omega
set_option maxRecDepth 100000 in
set_option maxHeartbeats 8000000 in
theorem rdeals_any (v lv tv dv : Value) (b : Book) (l : List Licence) (ts : List Take) (d : List Int) (w : World) (hb : BookAt w v b) (hB : BookB b) (hl : RowOf licC w lv l) (ht : RowOf takC w tv ts) (hd : IntsAt w dv d)
    (hT : ∀ t, t ∈ ts → TakB b t) (h6 : ts.length ≤ 6) (hlen : d.length ≤ ts.length) :
    Calls Tryz.prog 41 #[v, lv, tv, dv] w fun e w' => e = .returned (.bool (rdealsB b l ts d)) ∧ Ext w w' := by
  have HGD := Lib.hid (fun (x : Licence) (r lo hi : Nat) (m : Int) (h1 : r < b.rivers.length) (h2 : (hi : Int) < b.years) (h3 : lo ≤ hi) w1 (h : Ext w w1) => rgood_any v b x r lo hi m w1 (hb.ext h) hB h1 h2 h3)
  obtain ⟨ra, rc, rfl, _⟩ := hb.slice
  obtain ⟨la, lc, rfl, l1, l2, l3⟩ := RowOf.open4 (f0 := fun (x : Licence) => Value.int .i64 x.river) (f1 := fun (x : Licence) => Value.int .i64 x.first) (f2 := fun (x : Licence) => Value.int .i64 x.last) (f3 := fun (x : Licence) => Value.int .i64 x.quota) (fun _ => rfl) hl
  obtain ⟨ta, tc, rfl, t1, t2, t3⟩ := RowOf.open4 (f0 := fun (x : Take) => Value.int .i64 x.river) (f1 := fun (x : Take) => Value.int .i64 x.low) (f2 := fun (x : Take) => Value.int .i64 x.high) (f3 := fun (x : Take) => Value.int .i64 x.many) (fun _ => rfl) ht
  obtain ⟨da, dc, rfl, d1, d2, d3⟩ := hd.open
  have HL := Lib.hid l3
  have HT := Lib.hid t3
  have HD := Lib.hid d3
  have HTB := Lib.hid hT
  have HX0 := Lib.hid ((Ext.refl w).alloc _ : Ext w (w.alloc (.cells #[.int .i64 b.years, .slice ra b.rivers.length rc] 24)))
  have HS := Lib.hid (fun W (h : Ext (w.alloc (.cells #[.int .i64 b.years, .slice ra b.rivers.length rc] 24)) W) => (⟨h.cell (by go_simp), h.cell (by go_simp)⟩ : W.cell? ⟨w.heap.size, 0, none⟩ = some (.int .i64 b.years) ∧ W.cell? ⟨w.heap.size, 1, none⟩ = some (.slice ra b.rivers.length rc)))
  clear hb hB hl ht hd l3 t3 d3 hT
  go_enter Tryz.func41, Tryz.ntmps41
  go_wp2
  go_loopw [9] (fun i wr => ∃ k : Nat, k ≤ l.length ∧ i = .int .i64 k ∧ Hid (∀ j : Nat, j < k → goodI b (licAt l j) ts d (j : Int) = true ∧ sumI ts d (j : Int) ≤ (licAt l j).quota) ∧ Ext (w.alloc (.cells #[.int .i64 b.years, .slice ra b.rivers.length rc] 24)) wr) (fun i _ => l.length - (intOf i).toNat)
  case atStart => exact ⟨0, Nat.zero_le _, rfl, fun j h => by omega, Ext.refl _⟩
  case round =>
    obtain ⟨k, hk, rfl, hno, hx⟩ := hrel
    by_cases hlt : k < l.length
    · have x2 : decide ((k : Int) < (l.length : Int)) = true := by simpa using hlt
      have i1 : (0 : Int) ≤ (k : Int) := by omega
      have i2 : (k : Int) < (l.length : Int) := by omega
      obtain ⟨lb, lo', x, rfl, hxk, c0, c1, c2, c3⟩ := HL.out k hlt
      have HCL := Lib.hid (And.intro c0 (And.intro c1 (And.intro c2 c3)))
      have HXA := Lib.hid (licAt_at hxk.out)
      clear c0 c1 c2 c3 hxk
      obtain ⟨wu, rfl⟩ : ∃ wu : World, wu = wr := ⟨_, rfl⟩
      go_wp2
      go_loopw [10, 11] (fun s j wz => ∃ p : Nat, p ≤ d.length ∧ j = .int .i64 p ∧ s = .int .i64 (sumTo ts d k p) ∧ 0 ≤ sumTo ts d k p ∧ sumTo ts d k p ≤ 100 * p ∧ Hid (goodTo b x ts d k p = true) ∧ Ext wu wz) (fun _ j _ => d.length - (intOf j).toNat)
      case atStart => exact ⟨0, Nat.zero_le _, rfl, rfl, Int.le_refl _, Int.le_refl _, rfl, Ext.refl _⟩
      case round =>
        obtain ⟨p, hp, rfl, rfl, hs0, hs1, hg, hz⟩ := hrel
        by_cases hpt : p < d.length
        · have x3 : decide ((p : Int) < (d.length : Int)) = true := by simpa using hpt
          have j1 : (0 : Int) ≤ (p : Int) := by omega
          have j2 : (p : Int) < (d.length : Int) := by omega
          have j3 : (p : Int) < (ts.length : Int) := by omega
          obtain ⟨db, do', n, rfl, hnp, e0⟩ := HD.out p hpt
          obtain ⟨tb, to', t, rfl, htp, f0, f1, f2, f3⟩ := HT.out p (by omega)
          have q0 := (HX0.out.trans (hx.trans hz)).cell e0
          have hsu := sumTo_succ (i := (k : Int)) htp.out hnp.out
          have hgs := goodTo_succ (b := b) (x := x) (i := (k : Int)) htp.out hnp.out
          by_cases hnk : n = (k : Int)
          · have x4 : (n == (k : Int)) = true := by simpa using hnk
            have hga := fun (h : goodI b x ts d (k : Int) = true) => goodI_at b x ts d (k : Int) p t h htp.out (hnk ▸ hnp.out)
            obtain ⟨r, lo, hi, m, he, h1, h2, h3, m0, m1⟩ := (HTB.out t (List.mem_of_getElem? htp.out)).nat2
            subst he
            rw [if_pos hnk] at hsu
            rw [decide_eq_false (by simpa using hnk), Bool.false_or, hg.out, Bool.true_and] at hgs
            simp only at f0 f1 f2 f3 hsu
            have HF := Lib.hid (fun W (h : Ext wr W) => (⟨HS.out W (hx.trans (hz.trans h)), ⟨(HX0.out.trans (hx.trans (hz.trans h))).cell HCL.out.1, (HX0.out.trans (hx.trans (hz.trans h))).cell HCL.out.2.1, (HX0.out.trans (hx.trans (hz.trans h))).cell HCL.out.2.2.1, (HX0.out.trans (hx.trans (hz.trans h))).cell HCL.out.2.2.2⟩, (HX0.out.trans (hx.trans (hz.trans h))).cell f0, (HX0.out.trans (hx.trans (hz.trans h))).cell f1, (HX0.out.trans (hx.trans (hz.trans h))).cell f2, (HX0.out.trans (hx.trans (hz.trans h))).cell f3⟩ : (_ ∧ _) ∧ (_ ∧ _ ∧ _ ∧ _) ∧ _ ∧ _ ∧ _ ∧ _))
            have HG := Lib.hid (fun W (h : Ext wr W) => HGD.out x r lo hi m h1 h2 h3 W (HX0.out.trans (hx.trans (hz.trans h))))
            have HSU := Lib.hid hsu
            have q3 := fun W (h : Ext wr W) => (HX0.out.trans (hx.trans (hz.trans h))).cell f3
            have HQ3 := Lib.hid q3
            clear e0 f0 f1 f2 f3 htp hnp hsu hnk h1 h2 h3 q3
            cases hgb : goodB b x ⟨(r : Int), (lo : Int), (hi : Int), m⟩ with
            | false =>
              rw [hgb] at HG
              have HN : Hid (rdealsB b l ts d = false) := by
                refine rdeals_no hlt (.inl ?_)
                rw [HXA.out, Bool.eq_false_iff]; intro h; have := hga h; rw [hgb] at this; cases this
              clear hgb hgs hga
              go_upto_region 9 with fail
              refine region_reads (C := fun W => Ext wr W) (by kernel_rfl) (by kernel_rfl) ((Ext.refl wr).drew) ?_
              repeat (first | go_big_quiet_skip | (go_big_quiet_want; go_big_quiet_op; first | go_big_quiet_on | (refine ⟨_, fun W hW => rfl, ?_⟩; go_big_quiet_on)) | (go_big_quiet_want; refine ⟨?_, fun W hW => ?_, ?_⟩; rotate_left; (· (obtain ⟨⟨z0, z1⟩, ⟨y0, y1, y2, y3⟩, y4, y5, y6, y7⟩ := HF.out W hW); go_simp; (first | with_reducible rfl | (go_at_call 83; refine (HG.out W hW).mono ?_; rintro e w' ⟨rfl, hx1⟩; constructor; with_reducible rfl; exact hW.trans hx1))); (try simp only [Act.put, List.setIfInBounds_toArray, List.set_cons_zero, List.set_cons_succ]); go_big_quiet_on))
              refine wpQuiet_nil ?_
              intro wq hq
              go_wp2
              go_ret
              exact ⟨by rw [HN.out] <;> rfl, HX0.out.trans (hx.trans (hz.trans hq))⟩
            | true =>
              rw [hgb] at HG hgs
              have HGS := Lib.hid hgs
              clear hgb hgs hga
              generalize sumTo ts d (k : Int) p = s at *
              go_upto_region 9 with fail
              refine region_reads (C := fun W => Ext wr W) (by kernel_rfl) (by kernel_rfl) ((Ext.refl wr).drew) ?_
              repeat (first | go_big_quiet_skip | (go_big_quiet_want; go_big_quiet_op; first | go_big_quiet_on | (refine ⟨_, fun W hW => rfl, ?_⟩; go_big_quiet_on)) | (go_big_quiet_want; refine ⟨?_, fun W hW => ?_, ?_⟩; rotate_left; (· (obtain ⟨⟨z0, z1⟩, ⟨y0, y1, y2, y3⟩, y4, y5, y6, y7⟩ := HF.out W hW); go_simp; (first | with_reducible rfl | (go_at_call 83; refine (HG.out W hW).mono ?_; rintro e w' ⟨rfl, hx1⟩; constructor; with_reducible rfl; exact hW.trans hx1))); (try simp only [Act.put, List.setIfInBounds_toArray, List.set_cons_zero, List.set_cons_succ]); go_big_quiet_on))
              refine wpQuiet_nil ?_
              intro wq hq
              have z3 := HQ3.out wq hq
              go_wp2
              go_roundw
              case rel => exact ⟨p + 1, by omega, by go_num, by rw [HSU.out], by rw [HSU.out]; omega, by rw [HSU.out]; omega, HGS.out, hz.trans hq⟩
              case measure => simp [intOf]; omega
          · have x4 : (n == (k : Int)) = false := by simpa using hnk
            rw [if_neg hnk, Int.add_zero] at hsu
            rw [decide_eq_true hnk, Bool.true_or, Bool.and_true, hg.out] at hgs
            have HSU := Lib.hid hsu
            have HGS := Lib.hid hgs
            generalize sumTo ts d (k : Int) p = s at *
            clear e0 f0 f1 f2 f3 htp hnp hsu hgs hnk
            go_wp2
            go_roundw
            case rel => exact ⟨p + 1, by omega, by go_num, by rw [HSU.out], by rw [HSU.out]; omega, by rw [HSU.out]; omega, HGS.out, hz⟩
            case measure => simp [intOf]; omega
        · have x3 : decide ((p : Int) < (d.length : Int)) = false := by simp; omega
          have hpe : p = d.length := by omega
          subst hpe
          have hga := hg.out
          rw [goodTo_all] at hga
          rw [sumTo_all] at hs0 hs1 ⊢
          have q3 := (HX0.out.trans (hx.trans hz)).cell HCL.out.2.2.2
          by_cases hq : x.quota < sumI ts d (k : Int)
          · have x5 : decide (x.quota < sumI ts d (k : Int)) = true := by simpa using hq
            have HN : Hid (rdealsB b l ts d = false) := rdeals_no hlt (.inr (by rw [HXA.out]; exact hq))
            clear hga hq
            generalize sumI ts d (k : Int) = s at *
            go_wp2
            go_ret
            exact ⟨by rw [HN.out] <;> rfl, HX0.out.trans (hx.trans hz)⟩
          · have x5 : decide (x.quota < sumI ts d (k : Int)) = false := by simpa using hq
            have HNN : Hid (∀ j : Nat, j < k + 1 → goodI b (licAt l j) ts d (j : Int) = true ∧ sumI ts d (j : Int) ≤ (licAt l j).quota) := fun j hj => by
              by_cases h : j < k
              · exact hno.out j h
              · obtain rfl : j = k := by omega
                rw [HXA.out]; exact ⟨hga, by omega⟩
            clear hga hq
            generalize sumI ts d (k : Int) = s at *
            go_wp2
            go_roundw
            case rel => exact ⟨k + 1, by omega, by go_num, HNN, hx.trans hz⟩
            case measure => simp [intOf]; omega
    · have x2 : decide ((k : Int) < (l.length : Int)) = false := by simp; omega
      have HN : Hid (rdealsB b l ts d = true) := by
        unfold Hid rdealsB
        rw [List.all_eq_true]
        intro j hj
        have := hno.out j (by have := List.mem_range.1 hj; omega)
        rw [this.1, Bool.true_and, decide_eq_true this.2]
      go_wp2
      go_ret
      exact ⟨by rw [HN.out] <;> rfl, HX0.out.trans hx⟩
end Go.Proofs.YtabkfohbdfpdpaaGreatDoor
