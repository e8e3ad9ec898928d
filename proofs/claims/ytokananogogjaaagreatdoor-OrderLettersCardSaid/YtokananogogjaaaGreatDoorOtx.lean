/- text: the text of a book. -/
import Derived.Test.YtokananogogjaaaGreatDoorOtw
import Derived.IntWalk
import Derived.Lib.AppendIntMem
import Derived.Test.YtokananogogjaaaGreatDoorOpk
import Derived.Laws.RangeAny
namespace Go.Proofs.YtokananogogjaaaGreatDoor
open Go.RowKit
/-! ### In plain Lean -/
theorem str_step (a b : List UInt8) : Value.string (({ data := a.toArray } : ByteArray) ++ (({ data := #[32] } : ByteArray) ++ ({ data := b.toArray } : ByteArray))) = strV (a ++ (32 :: b)) := by
 have e : ∀ x y : List UInt8, (({ data := x.toArray } : ByteArray) ++ ({ data := y.toArray } : ByteArray)) = { data := (x ++ y).toArray } := fun x y => by
  apply ByteArray.ext; simp
 have e2 := e [32] b
 rw [show (({ data := #[32] } : ByteArray) ++ ({ data := b.toArray } : ByteArray)) = { data := ([32] ++ b).toArray } from e2, e]; rfl
theorem ba_app (x y : List UInt8) : (({ data := x.toArray } : ByteArray) ++ ({ data := y.toArray } : ByteArray)) = { data := (x ++ y).toArray } := by
 apply ByteArray.ext; simp
theorem row_str (a b : List UInt8) : Value.string (({ data := a.toArray } : ByteArray) ++ (({ data := b.toArray } : ByteArray) ++ ({ data := #[10] } : ByteArray))) = strV (a ++ (b ++ [10])) := by
 rw [show (({ data := #[10] } : ByteArray)) = { data := ([10] : List UInt8).toArray } from rfl, ba_app, ba_app]
theorem end_str (J a b c : List UInt8) : Value.string ((((((({ data := J.toArray } : ByteArray) ++ ({ data := #[101, 110, 100, 32] } : ByteArray)) ++ ({ data := a.toArray } : ByteArray)) ++ ({ data := b.toArray } : ByteArray)) ++ ({ data := c.toArray } : ByteArray)) ++ ({ data := #[10] } : ByteArray))) = strV (J ++ (([101, 110, 100, 32] ++ a ++ b ++ c) ++ [10])) := by
 rw [show (({ data := #[101, 110, 100, 32] } : ByteArray)) = { data := ([101, 110, 100, 32] : List UInt8).toArray } from rfl, show (({ data := #[10] } : ByteArray)) = { data := ([10] : List UInt8).toArray } from rfl, ba_app, ba_app, ba_app, ba_app, ba_app]
 simp
theorem ints_cell {W : World} {b n c : Nat} {ns : List Int} (h : IntsAt W (.slice (some ⟨b, 0, none⟩) n c) ns) {k : Nat} {y : Int} (hy : ns[k]? = some y) : W.cell? ⟨b, k, none⟩ = some (.int .i64 y) := by
 obtain ⟨a', c', hv, _, _, _, h3⟩ := h
 obtain ⟨b', o', e, hc⟩ := h3 k (.int .i64 y) (by rw [List.getElem?_map, hy]; rfl)
 injection hv with h1 h2 h3
 rw [e] at h1
 cases h1
 rw [Nat.zero_add] at hc
 exact hc
theorem row_cell {W : World} {g n c m : Nat} {cs : List Value} (h : RowAt W (.slice (some ⟨g, 0, none⟩) n c) m cs) {k : Nat} {u : Value} (hy : cs[k]? = some u) : W.cell? ⟨g, k, none⟩ = some u := by
 obtain ⟨a', c', hv, _, _, _, h3⟩ := h
 obtain ⟨b', o', e, hc⟩ := h3 k u hy
 injection hv with h1 h2 h3
 rw [e] at h1
 cases h1
 rw [Nat.zero_add] at hc
 exact hc
theorem byte_le (b : UInt8) : (b.toNat : Int) ≤ 255 := by have := b.toNat_lt; omega
theorem lineSum_le {i : Nat} (l : List UInt8) {k : Nat} (hi : i ≤ 801) (hk : k ≤ 20) : 0 ≤ lineSum i l k ∧ lineSum i l k ≤ 81804000 := by
 have h := lineSum_bd i l k
 have h1 : k * (k * (i + 1)) ≤ 20 * (20 * 802) := Nat.mul_le_mul hk (Nat.mul_le_mul hk (by omega))
 have h2 : ((k * (k * (i + 1)) : Nat) : Int) ≤ 320800 := by omega
 push_cast at h2
 omega
theorem linesSum_le {ls : List (List UInt8)} (h : ∀ l, l ∈ ls → l.length ≤ 20) : ∀ {i : Nat}, i ≤ 801 → 0 ≤ linesSum ls i ∧ linesSum ls i ≤ 81804000 * (i : Int)
 | 0, _ => by simp [linesSum]
 | i + 1, hi => by
  have ih := linesSum_le h (i := i) (by omega)
  have hl : (ls.getD i []).length ≤ 20 := by
   rw [List.getD_eq_getElem?_getD]
   cases hx : ls[i]? with
   | none => simp
   | some l => exact h l (List.mem_of_getElem? hx)
  have h2 := lineSum_le (i := i) (ls.getD i []) (by omega) hl
  unfold linesSum
  omega
theorem term_bd (c : UInt8) {k i : Nat} (hk : k ≤ 20) (hi : i ≤ 801) : (0 ≤ (c.toNat : Int) * ((k : Int) + 1) ∧ (c.toNat : Int) * ((k : Int) + 1) ≤ 5355) ∧ 0 ≤ (c.toNat : Int) * ((k : Int) + 1) * ((i : Int) + 1) ∧ (c.toNat : Int) * ((k : Int) + 1) * ((i : Int) + 1) ≤ 4294710 := by
 have h0 : (0 : Int) ≤ (c.toNat : Int) := by omega
 have h1 := byte_le c
 have h2 : 0 ≤ (c.toNat : Int) * ((k : Int) + 1) := Int.mul_nonneg h0 (by omega)
 have h3 : (c.toNat : Int) * ((k : Int) + 1) ≤ 255 * 21 := Int.mul_le_mul h1 (by omega) (by omega) (by omega)
 have h4 : 0 ≤ (c.toNat : Int) * ((k : Int) + 1) * ((i : Int) + 1) := Int.mul_nonneg h2 (by omega)
 have h5 : (c.toNat : Int) * ((k : Int) + 1) * ((i : Int) + 1) ≤ 5355 * 802 := Int.mul_le_mul (by omega) (by omega) (by omega) (by omega)
 omega
theorem wrap_term {S T c k i : Int} (t1 : 0 ≤ c * (k + 1)) (t2 : c * (k + 1) ≤ 5355) (t3 : 0 ≤ c * (k + 1) * (i + 1)) (t4 : c * (k + 1) * (i + 1) ≤ 4294710) (c0 : 0 ≤ c) (c1 : c ≤ 255) (s0 : 0 ≤ S) (s1 : S ≤ 81804000 * 801) (u0 : 0 ≤ T) (u1 : T ≤ 81804000) :
  wrap64 (S + T + wrap64 (wrap64 (wrap64 c * (k + 1)) * (i + 1))) = S + (T + c * (k + 1) * (i + 1)) := by
 rw [IntWalk.wrap64_in c (by omega), IntWalk.wrap64_in (c * (k + 1)) (by omega), IntWalk.wrap64_in (c * (k + 1) * (i + 1)) (by omega), IntWalk.wrap64_in _ (by omega)]; omega
def TextSmall (b : Book) : Prop := TextN b ∧ b.goods.length ≤ 400 ∧ b.entries.length ≤ 400
/-- What a walk wants of a line. -/
theorem ln_parts (l : Ln) : ∃ ty pay fn, l.val = .iface ty pay ∧ (∀ w, (method 370 ty pay "nacre/order.numbers").run Tryz.prog w = .ok (fn, pay) w) ∧ (∀ args w, (callFunc fn args).run Tryz.prog w = .ok (.enter fn args) w) ∧ ∀ w, Calls Tryz.prog fn #[pay] w fun e w' => ∃ b, e = .returned (.slice (some ⟨b, 0, none⟩) l.nums.length l.nums.length) ∧ Ext w w' ∧ IntsAt w' (.slice (some ⟨b, 0, none⟩) l.nums.length l.nums.length) l.nums := by
 cases l with
 | head e m => exact ⟨_, _, _, rfl, mt_h _, enters_of Tryz.func204 (by kernel_rfl) rfl, fun w => head_nums e m w⟩
 | good g => exact ⟨_, _, _, rfl, mt_g _, enters_of Tryz.func205 (by kernel_rfl) rfl, fun w => good_nums g w⟩
 | entry x => exact ⟨_, _, _, rfl, mt_e _, enters_of Tryz.func206 (by kernel_rfl) rfl, fun w => entry_nums x.1 x.2.1 x.2.2 w⟩
theorem ln_kind (l : Ln) : ∃ k : Nat, k < 3 ∧ l.kind = k ∧ #[strV wBook, strV wGood, strV wEntry][k]? = some (strV l.word) := by
 cases l with
 | head e m => exact ⟨0, by omega, rfl, rfl⟩
 | good g => exact ⟨1, by omega, rfl, rfl⟩
 | entry x => exact ⟨2, by omega, rfl, rfl⟩
theorem words_cell (w : World) {k : Nat} {x : Value} (hk : #[strV wBook, strV wGood, strV wEntry][k]? = some x) : (w.alloc (.cells #[.string ⟨wBook.toArray⟩, .string ⟨wGood.toArray⟩, .string ⟨wEntry.toArray⟩] 169)).cell? ⟨w.heap.size, k, none⟩ = some x := by
 rcases (show k = 0 ∨ k = 1 ∨ k = 2 ∨ 3 ≤ k by omega) with rfl | rfl | rfl | h
 ·cases hk; go_simp
 ·cases hk; go_simp
 ·cases hk; go_simp
 ·rw [Array.getElem?_eq_none (by simpa using h)] at hk; cases hk
def TabOk (w : World) : Prop := Lib.TabIs Tryz.prog w "internal/strconv.uint64pow10" .u64 Lib.pow10Tab
theorem TabOk.ext {w w' : World} (h : TabOk w) (k : Ext w w') : TabOk w' := Lib.tabBelow_of_tabIs h w' k
theorem itoa_any (n : Int) (h0 : -9223372036854775808 ≤ n) (h1 : n ≤ 9223372036854775807) (w : World) (ht : TabOk w) :
  Calls Tryz.prog 130 #[.int .i64 n] w fun e w' => e = .returned (strV (Lib.itoa n)) ∧ Ext w w' :=
 (Any.strconv_Itoa Tryz.itoa n h0 h1 w ht).mono fun e w' h => by
  obtain ⟨he, k, os, rfl⟩ := h
  exact ⟨he, Lib.below_grow _ _ (Nat.le_refl _) _ _⟩
set_option maxRecDepth 100000 in
set_option maxHeartbeats 4000000 in
theorem text_any (v : Value) (b : Book) (w : World) (hb : BookAt w v b) (hB : TextSmall b) (ht : TabOk w) :
  Calls Tryz.prog 108 #[v] w fun e w' => e = .returned (strV (textT b)) ∧ Ext w w' := by
 have HL := Lib.hid (fun W (h : Ext w W) => lines_any v b W (hb.ext h) hB.2)
 obtain ⟨ga, gc, ea, ec, rfl, hgl, hel⟩ := hb.open
 clear hb
 have hBX := BoxAt.new w (.slice ga b.goods.length gc) b (.slice ea b.entries.length ec)
 go_enter Tryz.func108, Tryz.ntmps108
 go_upto_region 1 with fail
 have hx0 : Ext w (w.alloc (bookBox (.slice ga b.goods.length gc) b (.slice ea b.entries.length ec))) := (Ext.refl w).alloc _
 generalize w.alloc (bookBox (.slice ga b.goods.length gc) b (.slice ea b.entries.length ec)) = W0 at *
 go_upto_region 2 with (go_at_call 105; refine (words_any _).mono ?_; rintro e w1 ⟨rfl, hx1⟩)
 have HWC := Lib.hid (fun (k : Nat) (x : Value) hk => words_cell w1 (k := k) (x := x) hk)
 have hxa : Ext w1 (w1.alloc (.cells #[.string ⟨wBook.toArray⟩, .string ⟨wGood.toArray⟩, .string ⟨wEntry.toArray⟩] 169)) := (Ext.refl _).alloc _
 obtain ⟨m, hm⟩ : ∃ m, w1.heap.size = m := ⟨_, rfl⟩
 rw [hm] at HWC
 generalize w1.alloc (.cells #[.string ⟨wBook.toArray⟩, .string ⟨wGood.toArray⟩, .string ⟨wEntry.toArray⟩] 169) = W1 at *
 have HW0 := Lib.hid (hBX.ext (hx1.trans hxa))
 have hx01 := hx0.trans (hx1.trans hxa)
 obtain ⟨z0, z1, z2, z3⟩ := HW0.out
 clear hxa hx1 hBX hx0
 go_upto_region 4 with (go_at_call 132; refine (HL.out _ hx01).mono ?_; rintro e w2 ⟨g, cap, rfl, hx2, hR⟩)
 have HR := Lib.hid hR
 have HN := Lib.hid (lnsB_len b)
 have HLT := Lib.hid (lnsB_text b)
 have HLS := Lib.hid (lines_short hB.1)
 have HNM : Hid (∀ l, l ∈ lnsB b → Small l.nums) := by
  intro l hl
  unfold lnsB at hl
  simp only [List.mem_cons, List.mem_append, List.mem_map] at hl
  rcases hl with rfl | ⟨x, hx, rfl⟩ | ⟨x, hx, rfl⟩
  ·exact hB.1.hd
  ·exact small_one (hB.1.gd x hx)
  ·exact hB.1.en x hx
 have HTX : Hid (textT b = downL (linesT b) ++ (endL (checkT (linesT b)) ++ [10])) := rfl
 have hn : (lnsB b).length ≤ 801 := by have := HN.out; have := hB.2; omega
 generalize lnsB b = ls at *
 have HLL : Hid (linesT b = ls.map Ln.text) := HLT.out.symm
 generalize linesT b = L at *
 have HLN : Hid (L.length = ls.length) := by unfold Hid; rw [HLL.out]; simp
 clear hR z0 z1 z2 z3
 go_loopw [4, 5, 16] (fun ov cv iv wr => ∃ i : Nat, i ≤ ls.length ∧ iv = .int .i64 (i : Int) ∧ ov = strV (downL (L.take i)) ∧ cv = .int .i64 (linesSum L i) ∧ Ext w2 wr) (fun _ _ iv _ => ls.length - (intOf iv).toNat)
 case atStart => exact ⟨0, Nat.zero_le _, rfl, rfl, rfl, Ext.refl _⟩
 case round =>
  obtain ⟨i, hi, rfl, rfl, rfl, hx⟩ := hrel
  by_cases hlt : i < ls.length
  ·obtain ⟨l, hl⟩ : ∃ l, Hid (ls[i]? = some l) := ⟨_, List.getElem?_eq_getElem hlt⟩
   have HLt : Hid (L[i]? = some l.text) := by unfold Hid; rw [HLL.out, List.getElem?_map, hl.out]; rfl
   have HDN := Lib.hid (downL_succ HLt.out)
   have hlen := HLS.out l.text (List.mem_of_getElem? HLt.out)
   have HSM := Lib.hid (HNM.out l (List.mem_of_getElem? hl.out))
   have hc : w2.cell? ⟨g, i, none⟩ = some l.val := row_cell HR.out (by rw [List.getElem?_map, hl.out]; rfl)
   obtain ⟨ty, pay, fn, hv, hm, hen, hN⟩ := ln_parts l
   obtain ⟨k, hk3, hk, hkw⟩ := ln_kind l
   have HK : Hid (∀ w, Calls Tryz.prog 133 #[.iface ty pay] w fun e w' => e = .returned (.int .i64 (k : Int)) ∧ w' = w) := fun w => by rw [← hv, ← hk]; exact kind_any l w
   have HNU := Lib.hid hN
   rw [hv] at hc
   have hc' := hx.cell hc
   have dw := (hx2.trans hx).cell (HWC.out k _ hkw)
   have HT : Hid (l.text = lineT l.word l.nums) := rfl
   have hnl : l.nums.length ≤ 3 := by cases l <;> simp [Ln.nums, entN]
   generalize l.text = T at *
   generalize l.nums = ns at *
   generalize l.word = word at *
   clear hN hk hkw hv hc hl
   have hkI : (k : Int) < 3 := by omega
   go_upto_region 7 with (go_at_call 133; refine (HK.out _).mono ?_; rintro e w3 ⟨rfl, rfl⟩)
   go_wp2_with fail
   refine (HNU.out _).mono ?_
   rintro e w4 ⟨nb, rfl, hx4, hI⟩
   have H3 := Lib.hid (fun (k : Nat) (y : Int) (hy : ns[k]? = some y) => ints_cell hI hy)
   have hx24 := hx.trans hx4
   clear hI hm hen dw hc'
   go_wp2_with fail
   go_loopw [8, 28] (fun sv kv wr => ∃ q : Nat, q ≤ ns.length ∧ kv = .int .i64 (q : Int) ∧ sv = strV (lineT word (ns.take q)) ∧ Ext w2 wr ∧ Ext w4 wr) (fun _ kv _ => ns.length - (intOf kv).toNat)
   case atStart => exact ⟨0, Nat.zero_le _, rfl, by simp [lineT, numsT], hx24, Ext.refl _⟩
   case round =>
    clear hx24 hx4 hx
    obtain ⟨q, hq, rfl, rfl, hx, hx4⟩ := hrel
    by_cases hlq : q < ns.length
    ·obtain ⟨y, hy⟩ : ∃ y, Hid (ns[q]? = some y) := ⟨_, List.getElem?_eq_getElem hlq⟩
     have hc := H3.out q y hy.out
     obtain ⟨y0, y1⟩ := HSM.out y (List.mem_of_getElem? hy.out)
     have hc' := hx4.cell hc
     have hln : (lineT word ns).length ≤ 20 := by rw [← HT.out]; exact hlen
     have hl1 : (lineT word (ns.take q)).length ≤ 20 := by
      refine Nat.le_trans ?_ hln
      conv => rhs; rw [← List.take_append_drop q ns]
      unfold lineT numsT
      rw [List.flatMap_append]
      simp only [List.length_append]
      omega
     have hl2 := Lib.itoa_length_le y (by omega) (by omega)
     have hd1 : ¬ 9223372036854775807 < 1 + (Lib.itoa y).length := by omega
     have hd2 : ¬ 9223372036854775807 < (lineT word (ns.take q)).length + (1 + (Lib.itoa y).length) := by omega
     have HIT := Lib.hid (fun w1 (hx : Ext w2 w1) => itoa_any y (by omega) (by omega) w1 (ht.ext (hx01.trans (hx2.trans hx))))
     have HST := Lib.hid (lineT_step word hy.out)
     clear hc hl1 hl2 hln
     go_wp2_with (go_at_call 130; refine (HIT.out _ hx).mono ?_; rintro e w5 ⟨rfl, hx5⟩)
     exact ⟨⟨q + 1, by omega, by go_num, by rw [HST.out]; exact str_step _ _, hx.trans hx5, hx4.trans hx5⟩, by simp [intOf]; omega⟩
    ·have hqe : q = ns.length := by omega
     subst hqe
     have HTE : Hid (lineT word (ns.take ns.length) = T) := by unfold Hid; rw [List.take_length, HT.out]
     rw [HTE.out]
     clear H3
     go_wp2_with fail
     have HGD : Hid (linesSum L (i + 1) = linesSum L i + lineSum i T T.length) := by
      unfold Hid
      rw [linesSum, show L.getD i [] = T by rw [List.getD_eq_getElem?_getD, HLt.out]; rfl]
     obtain ⟨hb1, hb2⟩ := linesSum_le HLS.out (i := i) (by omega)
     have hb3 : linesSum L i ≤ 81804000 * 801 := by omega
     have hdl : (downL (L.take i)).length ≤ 21 * 801 := by
      have h1 := down_len (ls := L.take i) (n := 20) (fun l hl => HLS.out l (List.mem_of_mem_take hl))
      rw [List.length_take] at h1
      omega
     have hda : ¬ 9223372036854775807 < T.length + 1 := by omega
     have hdb : ¬ 9223372036854775807 < (downL (L.take i)).length + (T.length + 1) := by omega
     have HDA := Lib.hid hda
     have HDB := Lib.hid hdb
     have hiB : i ≤ 801 := by omega
     have HHX := Lib.hid hx
     clear hdl hda hdb hb2 hx hx4 hkI hk3
     obtain ⟨wL, hwL⟩ : ∃ wL : World, wL = wr := ⟨_, rfl⟩
     subst hwL
     go_loopw [5, 40] (fun cv kv wr => ∃ q : Nat, q ≤ T.length ∧ kv = .int .i64 (q : Int) ∧ cv = .int .i64 (linesSum L i + lineSum i T q) ∧ wr = wL) (fun _ kv _ => T.length - (intOf kv).toNat)
     case atStart => exact ⟨0, Nat.zero_le _, rfl, by simp [lineSum], rfl⟩
     case round =>
      obtain ⟨q, hq, rfl, rfl, rfl⟩ := hrel
      by_cases hlq : q < T.length
      ·have hby : T.getD q 0 = T[q] := by rw [List.getD_eq_getElem?_getD, List.getElem?_eq_getElem hlq]; rfl
       obtain ⟨hs1, hs2⟩ := lineSum_le (i := i) T (k := q) hiB (by omega)
       obtain ⟨⟨t1, t2⟩, t3, t4⟩ := term_bd (T[q]) (k := q) (i := i) (by omega) hiB
       have HSU := Lib.hid (show lineSum i T (q + 1) = lineSum i T q + ((T[q]).toNat : Int) * ((q : Int) + 1) * ((i : Int) + 1) by rw [lineSum, hby])
       have x5 : decide ((q : Int) < (T.length : Int)) = true := by simpa using hlq
       clear hby
       go_wp2
       go_roundw
       case rel =>
        refine ⟨q + 1, by omega, by go_num, ?_, trivial⟩
        rw [HSU.out]
        exact congrArg (Value.int IntKind.i64) (wrap_term t1 t2 t3 t4 (by omega) (byte_le _) hb1 hb3 hs1 hs2)
       case measure => simp [intOf]; omega
      ·have hqe2 : q = T.length := by omega
       subst hqe2
       have x5 : decide ((T.length : Int) < (T.length : Int)) = false := by simp
       have hda := HDA.out
       have hdb := HDB.out
       go_wp2
       exact ⟨⟨i + 1, by omega, by go_num, by rw [HDN.out]; exact row_str _ _, by rw [HGD.out], HHX.out⟩, by simp [intOf]; omega⟩
  ·have hie : i = ls.length := by omega
   subst hie
   have hdl : (downL L).length ≤ 21 * 801 := by
    have h1 := down_len (ls := L) (n := 20) HLS.out
    have := HLN.out
    omega
   have hLt : L.take ls.length = L := by rw [← HLN.out, List.take_length]
   rw [hLt]
   obtain ⟨hb1, hb2⟩ := linesSum_le HLS.out (i := ls.length) hn
   obtain ⟨ck, hck, hc0, hc1⟩ : ∃ ck, checkT L = ck ∧ 0 ≤ ck ∧ ck ≤ 150 := ⟨_, rfl, check_bd _⟩
   have hsum : linesSum L ls.length % 151 = ck := by rw [← hck]; unfold checkT; rw [HLN.out]
   have HCK := Lib.hid hck
   have HIT := Lib.hid (fun y (h0 : 0 ≤ y) (h1 : y ≤ 1000) w1 (hx : Ext w2 w1) => itoa_any y (by omega) (by omega) w1 (ht.ext (hx01.trans (hx2.trans hx))))
   clear hck hLt
   have hl1 := Lib.itoa_length_le (ck / 100) (by omega) (by omega)
   have hl2 := Lib.itoa_length_le (ck / 10 % 10) (by omega) (by omega)
   have hl3 := Lib.itoa_length_le (ck % 10) (by omega) (by omega)
   go_wp2_with fail
   refine (HIT.out (ck / 100) (by omega) (by omega) _ hx).mono ?_
   rintro e w7 ⟨rfl, hx7⟩
   have hxw7 := hx.trans hx7
   go_wp2_with fail
   refine (HIT.out (ck / 10 % 10) (by omega) (by omega) w7 hxw7).mono ?_
   rintro e w8 ⟨rfl, hx8⟩
   have hxw8 := hxw7.trans hx8
   go_wp2_with fail
   refine (HIT.out (ck % 10) (by omega) (by omega) w8 hxw8).mono ?_
   rintro e w9 ⟨rfl, hx9⟩
   have hxw9 := hxw8.trans hx9
   go_wp2
   go_ret
   refine ⟨?_, hx01.trans (hx2.trans hxw9)⟩
   rw [HTX.out, HCK.out]
   exact congrArg Ending.returned (end_str _ _ _ _)
end Go.Proofs.YtokananogogjaaaGreatDoor

/- told: the numbers of a line, or giving up. -/
namespace Go.Proofs.YtokananogogjaaaGreatDoor
open Go.RowKit
/-- A slice of strings. -/
def StrsAt (w : World) (v : Value) (ls : List (List UInt8)) : Prop := RowAt w v ls.length (ls.map strV)
theorem StrsAt.ext {w w' : World} {v : Value} {ls : List (List UInt8)} (h : StrsAt w v ls) (k : Ext w w') : StrsAt w' v ls := RowAt.ext h k
theorem strs_cell {W : World} {b n c : Nat} {ls : List (List UInt8)} (h : StrsAt W (.slice (some ⟨b, 0, none⟩) n c) ls) {k : Nat} {l : List UInt8} (hy : ls[k]? = some l) : W.cell? ⟨b, k, none⟩ = some (strV l) := row_cell h (by rw [List.getElem?_map, hy]; rfl)
def MaxOk (w : World) : Prop := ∃ m, w.cell? ⟨0, 0, none⟩ = some (.int .i64 m)
theorem MaxOk.ext {w w' : World} (h : MaxOk w) (k : Ext w w') : MaxOk w' := by obtain ⟨m, hm⟩ := h; exact ⟨m, k.cell hm⟩
theorem max_shaped {w : World} (h : w.ShapedOpen Tryz.prog) : MaxOk w := Tryz.splitS.s1_3 w h
theorem pieces_eq (l : List ByteArray) : l.map Value.string = (l.map (·.data.toList)).map strV := by
 rw [List.map_map]
 refine List.map_congr_left fun x _ => ?_
 show Value.string x = Value.string ⟨x.data.toList.toArray⟩
 rw [Array.toArray_toList]
theorem split_any (s : List UInt8) (c : UInt8) (w : World) (hm : MaxOk w) (hs : s.length ≤ 1000) :
  Calls Tryz.prog 103 #[strV s, .string ⟨#[c]⟩] w fun e w' => ∃ b, e = .returned (.slice (some ⟨b, 0, none⟩) (splitL c s).length (splitL c s).length) ∧ Ext w w' ∧ StrsAt w' (.slice (some ⟨b, 0, none⟩) (splitL c s).length (splitL c s).length) (splitL c s) := by
 obtain ⟨m, hm⟩ := hm
 have hcs := Any.strings_Split { Tryz.splitS with } Tryz.splitS.i9 ⟨s.toArray⟩ ⟨#[c]⟩ m w (by show s.toArray.size < _; simp; omega) hm (by show 1 ≤ (#[c] : Array UInt8).size; simp)
 have hk : Lib.countB ⟨s.toArray⟩ ⟨#[c]⟩ = Lib.count s [c] := rfl
 have hd := Lib.splitB_data ⟨#[c]⟩ 0 (Lib.countB ⟨s.toArray⟩ ⟨#[c]⟩) ⟨s.toArray⟩
 rw [hk] at hd
 have hd2 : (Lib.splitB ⟨#[c]⟩ 0 (Lib.count s [c]) ⟨s.toArray⟩).map (·.data.toList) = splitL c s := by
  rw [hd]
  have := splitL_eq c s
  simpa using this
 have hl : (splitL c s).length = Lib.count s [c] + 1 := by
  rw [← hd2, List.length_map]
  exact Lib.splitB_all ⟨#[c]⟩ (by show 1 ≤ (#[c] : Array UInt8).size; simp) 0 _ ⟨s.toArray⟩ hk
 have hb : Lib.count s [c] ≤ s.length + 1 := Lib.count_le s [c]
 refine hcs.mono fun e w' h => ?_
 obtain ⟨rfl, rfl⟩ := h
 rw [hk, ← hl, pieces_eq, hd2]
 refine ⟨w.heap.size, rfl, (Ext.refl w).alloc _, ?_⟩
 have := RowAt.new w ((splitL c s).map strV).toArray (Tryz.splitS_ren.t 9) (splitL c s).length (splitL c s).length (Nat.le_refl _) (by unfold maxLen; omega)
 simpa [StrsAt] using this
/-! ### Giving up -/
def NoneP (w : World) (e : Ending) (w' : World) : Prop := ∃ why, e = .panicked [{ v := noneV why, recovered := false }] ∧ Ext w w'
theorem sure_yes (why : ByteArray) (w : World) : Calls Tryz.prog 104 #[.bool true, .string why] w fun e w' => e = .returned (.tuple #[]) ∧ w' = w := by
 go_enter Tryz.func104, Tryz.ntmps104
 go_wp2
 go_end0
 exact ⟨rfl, rfl⟩
theorem sure_no (why : ByteArray) (w : World) : Calls Tryz.prog 104 #[.bool false, .string why] w (NoneP w) := by
 go_enter Tryz.func104, Tryz.ntmps104
 go_wp2
 exact ⟨rfl, why, rfl, Ext.refl _⟩
theorem size_str (s : List UInt8) : (⟨s.toArray⟩ : ByteArray).size = s.length := by show s.toArray.size = _; simp
theorem str_at {s : List UInt8} {pos : Nat} {b : UInt8} (hb : s[pos]? = some b) (h : pos < (⟨s.toArray⟩ : ByteArray).size) : (⟨s.toArray⟩ : ByteArray)[pos]'h = b := by
 obtain ⟨h1, rfl⟩ := List.getElem?_eq_some_iff.1 hb
 show s.toArray[pos] = s[pos]
 simp
theorem next_digit (s : List UInt8) (w : World) {pos : Nat} {b : UInt8} (hb : s[pos]? = some b) (ha : b.toNat < 128) : ∀ ty, (Instr.next (.pointer (some ⟨w.heap.size, 0, none⟩)) true ty).run Tryz.prog (w.iter ⟨s.toArray⟩ pos) = .ok (.tuple #[.bool true, .int .i64 pos, .int .i32 b.toNat]) (w.iter ⟨s.toArray⟩ (pos + 1)) := fun ty => by
 have hp : pos < (⟨s.toArray⟩ : ByteArray).size := by rw [size_str]; exact (List.getElem?_eq_some_iff.1 hb).1
 have h1 := str_at hb hp
 rw [run_next_ascii w ⟨s.toArray⟩ pos ty hp (by rw [h1]; exact ha), h1]
theorem owns_down {w : World} {base base' : Nat} {e : TypeId} {size : Nat} {v : Value} {n : Nat} {xs : List Value} (h : w.ownsRow base e size v n xs) (hb : base' ≤ base) : w.ownsRow base' e size v n xs := by
 refine ⟨h.1, ?_⟩
 rcases h.2 with h1 | ⟨g, cap, cur, h1, h2, h3⟩
 ·exact .inl h1
 ·exact .inr ⟨g, cap, cur, h1, by omega, h3⟩
set_option maxRecDepth 100000 in
set_option maxHeartbeats 8000000 in
theorem told_len (s word : List UInt8) (M : Nat) (w : World) (hm : MaxOk w) (hs : s.length ≤ 1000) (hM : 1 ≤ M ∧ M ≤ 3000) (hl : (splitL 32 s).length ≠ M + 1) : Calls Tryz.prog 106 #[strV s, strV word, .int .i64 M] w (NoneP w) := by
 have HSP := Lib.hid (split_any s 32 w hm hs)
 have HSN := Lib.hid sure_no
 obtain ⟨M1, M2⟩ := hM
 have E1 : IntKind.i64.wrap ((M : Int) + 1) = (M : Int) + 1 := IntWalk.i64_in _ (by omega)
 have t1 : (((splitL 32 s).length : Int) == (M : Int) + 1) = false := by rw [beq_eq_false_iff_ne]; omega
 generalize (splitL 32 s).length = L at *
 clear hl M1 M2 hm
 go_enter Tryz.func106, Tryz.ntmps106
 go_wp2_with (first | (go_at_call 103; refine HSP.out.mono ?_; rintro e w1 ⟨b, rfl, hx1, hst⟩; clear hst) | (go_at_call 104; refine (HSN.out _ _).mono ?_; rintro e w9 ⟨why, rfl, hx9⟩))
 exact ⟨rfl, why, rfl, hx1.trans hx9⟩
set_option maxRecDepth 100000 in
set_option maxHeartbeats 8000000 in
theorem told_word (s word : List UInt8) (M : Nat) (w : World) (hm : MaxOk w) (hs : s.length ≤ 1000) (hM : 1 ≤ M ∧ M ≤ 3000) (hl : (splitL 32 s).length = M + 1) (hw : (splitL 32 s).headD [] ≠ word) : Calls Tryz.prog 106 #[strV s, strV word, .int .i64 M] w (NoneP w) := by
 have HSP := Lib.hid (split_any s 32 w hm hs)
 have HSN := Lib.hid sure_no
 obtain ⟨M1, M2⟩ := hM
 have E1 : IntKind.i64.wrap ((M : Int) + 1) = (M : Int) + 1 := IntWalk.i64_in _ (by omega)
 have t1 : ((M : Int) + 1 == (M : Int) + 1) = true := by simp
 have b0 : (0 : Int) < (M : Int) + 1 := by omega
 have b0n : 0 < M + 1 := by omega
 rw [hl] at HSP
 obtain ⟨q, hq⟩ : ∃ q, Hid ((splitL 32 s)[0]? = some q) := by
  cases h : splitL 32 s with
  | nil => exact absurd h (splitL_ne 32 s)
  | cons x t => exact ⟨x, rfl⟩
 have hqd : (splitL 32 s).headD [] = q := by
  have hq := hq.out
  cases h : splitL 32 s with
  | nil => exact absurd h (splitL_ne 32 s)
  | cons x t => rw [h] at hq; simpa using hq
 rw [hqd] at hw
 have w1n : decide (q = word) = false := by simpa using hw
 have w2n : (q == word) = false := by simpa using hw
 clear hl hm hw hqd
 go_enter Tryz.func106, Tryz.ntmps106
 go_wp2_with (first | (go_at_call 103; refine HSP.out.mono ?_; rintro e w1 ⟨b, rfl, hx1, hst⟩; have z0 := strs_cell hst hq.out; clear hst) | (go_at_call 104; refine (HSN.out _ _).mono ?_; rintro e w9 ⟨why, rfl, hx9⟩))
 exact ⟨rfl, why, rfl, hx1.trans hx9⟩
set_option maxRecDepth 100000 in
set_option maxHeartbeats 8000000 in
theorem told_go (s word : List UInt8) (M : Nat) (w : World) (ht : TabOk w) (hm : MaxOk w) (hs : s.length ≤ 1000) (hM : 1 ≤ M ∧ M ≤ 3000) (hl : (splitL 32 s).length = M + 1) (hw : (splitL 32 s).headD [] = word) :
  Calls Tryz.prog 106 #[strV s, strV word, .int .i64 M] w fun e w' => ((∀ x, x ∈ (splitL 32 s).drop 1 → numOk x = true) ∧ ∃ v1, e = .returned v1 ∧ Ext w w' ∧ w'.ownsRow w.heap.size 3 1 v1 (toldN s).length ((toldN s).map (.int .i64))) ∨ ((¬ ∀ x, x ∈ (splitL 32 s).drop 1 → numOk x = true) ∧ NoneP w e w') := by
 have HSP := Lib.hid (split_any s 32 w hm hs)
 have HSU := Lib.hid sure_yes
 obtain ⟨M1, M2⟩ := hM
 have E1 : IntKind.i64.wrap ((M : Int) + 1) = (M : Int) + 1 := IntWalk.i64_in _ (by omega)
 have t1 : ((M : Int) + 1 == (M : Int) + 1) = true := by simp
 have b0 : (0 : Int) < (M : Int) + 1 := by omega
 have b0n : 0 < M + 1 := by omega
 have hM0 : ¬ M = 0 := by omega
 have HL := Lib.hid hl
 have HTAB := Lib.hid (fun w1 (hx : Ext w w1) => ht.ext hx)
 have HTLD : Hid ((toldN s).length = M) := by unfold Hid toldN; rw [List.length_map, List.length_drop]; omega
 rw [hl] at HSP
 obtain ⟨q, hq⟩ : ∃ q, Hid ((splitL 32 s)[0]? = some q) := by
  cases h : splitL 32 s with
  | nil => exact absurd h (splitL_ne 32 s)
  | cons x t => exact ⟨x, rfl⟩
 have hqd : (splitL 32 s).headD [] = q := by
  have hq := hq.out
  cases h : splitL 32 s with
  | nil => exact absurd h (splitL_ne 32 s)
  | cons x t => rw [h] at hq; simpa using hq
 rw [hqd] at hw
 subst hw
 have w1n : decide (q = q) = true := by simp
 clear hl ht hm hqd
 go_enter Tryz.func106, Tryz.ntmps106
 go_wp2_with (first | (go_at_call 103; refine HSP.out.mono ?_; rintro e w1 ⟨b, rfl, hx1, hst⟩; have z0 := strs_cell hst hq.out; have HST := Lib.hid hst; clear hst) | (go_at_call 104; refine (HSU.out _ _).mono ?_; rintro e w9 ⟨rfl, rfl⟩))
 have HX1 := Lib.hid hx1
 clear z0 hx1
 go_loopw [8, 33] (fun ov i wr => ∃ j : Nat, j ≤ M ∧ i = .int .i64 j ∧ wr.ownsRow w9.heap.size 3 1 ov j (((toldN s).take j).map (.int .i64)) ∧ Ext w9 wr ∧ Hid (∀ x, x ∈ ((splitL 32 s).drop 1).take j → numOk x = true)) (fun _ i _ => M - (intOf i).toNat)
 case atStart => exact ⟨0, Nat.zero_le _, rfl, World.ownsRow_nil _ _ _ _, Ext.refl _, fun x hx => by simp at hx⟩
 case round =>
  obtain ⟨j, hj, rfl, hown, hx, hal⟩ := hrel
  by_cases hlt : j < M
  ·obtain ⟨l, hl⟩ : ∃ l, (splitL 32 s)[1 + j]? = some l := ⟨_, List.getElem?_eq_getElem (by rw [HL.out]; omega)⟩
   have z1 := hx.cell (strs_cell HST.out hl)
   have x1 : decide ((j : Int) < (M : Int)) = true := by simpa using hlt
   have x2 : (j : Int) < (M : Int) := by omega
   have x3 : (0 : Int) ≤ (j : Int) := by omega
   have hdl : ((splitL 32 s).drop 1)[j]? = some l := by rw [List.getElem?_drop]; exact hl
   have HXR := Lib.hid hx
   have hsz := size_str l
   cases hok : numOk l with
   | true =>
    have HAX : Hid (∀ x, x ∈ ((splitL 32 s).drop 1).take (j + 1) → numOk x = true) := fun x hx => by
     rw [List.take_add_one, hdl, List.mem_append] at hx
     rcases hx with hx | hx
     ·exact hal.out x hx
     ·rw [show x = l by simpa using hx]; exact hok
    have hns : (toldN s)[j]? = some (valT l) := by unfold toldN; rw [List.getElem?_map, hdl]; rfl
    have HTK : Hid ((toldN s).take (j + 1) = (toldN s).take j ++ [valT l]) := by unfold Hid; rw [List.take_add_one, hns]; rfl
    have hs1 : j + 1 ≤ maxLen ∧ (j + 1) * 8 ≤ 140737488355328 := by unfold maxLen; omega
    have HS1 := Lib.hid hs1
    have HO := Lib.hid hown
    obtain ⟨n1, n2, n3, n4, n5, n6⟩ := num_ok hok
    have HB := Lib.hid (val_bd n6)
    have HD := Lib.hid n6
    have HIT := Lib.hid (fun w1 (hx : Ext w w1) => itoa_any (valT l) (by omega) (by omega) w1 (HTAB.out w1 hx))
    rw [n3] at HIT
    have HXW := Lib.hid (HX1.out.trans hx)
    clear hown hs1 hns hok hx hdl hl n3 n6
    go_wp2_with fail
    obtain ⟨wo, hwo⟩ : ∃ wo : World, wo = wr := ⟨_, rfl⟩
    subst hwo
    go_loopw [11] (fun n w' => ∃ pos : Nat, pos ≤ l.length ∧ w' = wo.iter ⟨l.toArray⟩ pos ∧ n = .int .i64 (valT (l.take pos))) (fun _ w' => l.length - w'.iterPos wo.heap.size)
    case atStart => exact ⟨0, Nat.zero_le _, rfl, rfl⟩
    case round =>
     obtain ⟨pos, hpos, rfl, rfl⟩ := hrel
     have hxi : Ext wo (wo.iter ⟨l.toArray⟩ pos) := (Ext.refl wo).alloc _
     by_cases hp : pos < l.length
     ·obtain ⟨b, hb⟩ : ∃ b, l[pos]? = some b := ⟨_, List.getElem?_eq_getElem hp⟩
      have hdb : digB b = true := by have := HD.out; rw [List.all_eq_true] at this; exact this b (List.mem_of_getElem? hb)
      simp only [digB, Bool.and_eq_true, decide_eq_true_eq] at hdb
      obtain ⟨g1, g2⟩ := hdb
      have hnx := next_digit l wo hb (by omega)
      have hbd := HB.out pos
      have HVS : Hid (valT (l.take (pos + 1)) = 10 * valT (l.take pos) + ((b.toNat : Int) - 48)) := by unfold Hid; rw [List.take_add_one, hb, Option.toList_some, valT_snoc]
      have hpl : (l.take pos).length ≤ 2 := by rw [List.length_take]; omega
      have hpw := pow10_le hpl
      obtain ⟨c0, c1⟩ := hbd
      have d1 : decide ((48 : Int) ≤ (b.toNat : Int)) = true := by simp; omega
      have d2 : decide ((b.toNat : Int) ≤ 57) = true := by simp; omega
      have d3 : decide ((l.length : Int) ≤ 2) = true := by simp; omega
      have d4 : decide (l.length ≤ 2) = true := by simp; omega
      have d5 : decide (48 ≤ b.toNat) = true := by simp; omega
      have d6 : decide (b.toNat ≤ 57) = true := by simp; omega
      generalize valT (l.take pos) = v at *
      have c2 : v ≤ 1000 := by omega
      have E1' : IntKind.i64.wrap (10 * v) = 10 * v := IntWalk.i64_in _ (by omega)
      have E2 : IntKind.i32.wrap ((b.toNat : Int) - 48) = (b.toNat : Int) - 48 := IntWalk.i32_in _ (by omega)
      have E4 : IntKind.i64.wrap ((b.toNat : Int) - 48) = (b.toNat : Int) - 48 := IntWalk.i64_in _ (by omega)
      have E3 : IntKind.i64.wrap (10 * v + ((b.toNat : Int) - 48)) = 10 * v + ((b.toNat : Int) - 48) := IntWalk.i64_in _ (by omega)
      clear c0 c1 hpw z1
      go_wp2_with (go_at_call 104; refine (HSU.out _ _).mono ?_; rintro e w' ⟨rfl, rfl⟩)
      go_roundw
      case rel => exact ⟨pos + 1, by omega, rfl, by rw [HVS.out]⟩
      case measure => simp; omega
     ·have hpe : pos = l.length := by omega
      have hnx : ∀ ty, (Instr.next (.pointer (some ⟨wo.heap.size, 0, none⟩)) true ty).run Tryz.prog (wo.iter ⟨l.toArray⟩ pos) = _ := fun ty => run_next_end wo ⟨l.toArray⟩ pos ty (by rw [size_str]; exact hp)
      have HVE : Hid (valT (l.take pos) = valT l) := by unfold Hid; rw [List.take_of_length_le (by omega)]
      rw [HVE.out]
      have hse : l.isEmpty = false := by simpa using n4
      have HXO := Lib.hid (HXR.out.trans hxi)
      have HXI := Lib.hid hxi
      clear hpe n4 z1 hxi
      go_wp2_with (first
       | (go_at_call 130; refine (HIT.out _ (HXW.out.trans HXI.out)).mono ?_; rintro e w3 ⟨rfl, hx3⟩; have hy3 := HXO.out.trans hx3; have hz3 := hy3.size)
       | (go_at_call 104; refine (HSU.out _ _).mono ?_; rintro e w' ⟨rfl, rfl⟩)
       | (at_builtin; refine wpList_push_at E_ints rfl _ _ rfl w9.heap.size rfl (owns_ext HO.out (HXI.out.trans hx3)) rfl rfl rfl (by simp [Value.oneCell']) ?_ HS1.out.1 HS1.out.2 hz3; intro g cap w4 hown4 hext4 hg4 hloc4; have hx4 := hext4 _ hy3 (Nat.le_refl _); have HO4 := Lib.hid hown4; clear hown4 hext4 hg4 hloc4))
      refine ⟨⟨j + 1, by omega, by go_num, by rw [HTK.out, List.map_append]; exact HO4.out, hx4, HAX.out⟩, by simp [intOf]; omega⟩
   | false =>
    have HNO : Hid (¬ ∀ x, x ∈ (splitL 32 s).drop 1 → numOk x = true) := fun h => by have := h l (List.mem_of_getElem? hdl); rw [hok] at this; cases this
    have HXW := Lib.hid (HX1.out.trans hx)
    have HN := Lib.hid hok
    have HSN := Lib.hid sure_no
    have HIT := Lib.hid (fun w1 (hx : Ext w w1) n (h0 : 0 ≤ n) (h1 : n ≤ 1000) => itoa_any n (by omega) (by omega) w1 (HTAB.out w1 hx))
    clear hok hown hx hdl hl
    go_wp2_with fail
    obtain ⟨wo, hwo⟩ : ∃ wo : World, wo = wr := ⟨_, rfl⟩
    subst hwo
    go_loopw [11] (fun n w' => ∃ pos : Nat, pos ≤ l.length ∧ w' = wo.iter ⟨l.toArray⟩ pos ∧ n = .int .i64 (valT (l.take pos)) ∧ Hid ((l.take pos).all digB = true ∧ (pos = 0 ∨ l.length ≤ 2))) (fun _ w' => l.length - w'.iterPos wo.heap.size)
    case atStart => exact ⟨0, Nat.zero_le _, rfl, rfl, by simp, .inl rfl⟩
    case round =>
     obtain ⟨pos, hpos, rfl, rfl, hall⟩ := hrel
     have hxi : Ext w (wo.iter ⟨l.toArray⟩ pos) := HXW.out.alloc _
     have HBD := Lib.hid (val_bd hall.out.1 pos)
     by_cases hp : pos < l.length
     ·obtain ⟨b, hb⟩ : ∃ b, l[pos]? = some b := ⟨_, List.getElem?_eq_getElem hp⟩
      by_cases hg : digB b = true ∧ l.length ≤ 2
      ·obtain ⟨hdb, n5⟩ := hg
       have HAL : Hid ((l.take (pos + 1)).all digB = true ∧ (pos + 1 = 0 ∨ l.length ≤ 2)) := ⟨by rw [List.take_add_one, hb, Option.toList_some, List.all_append, hall.out.1]; simp [hdb], .inr n5⟩
       simp only [digB, Bool.and_eq_true, decide_eq_true_eq] at hdb
       obtain ⟨g1, g2⟩ := hdb
       have hnx := next_digit l wo hb (by omega)
       have hbd := HBD.out
       rw [List.take_take, Nat.min_self] at hbd
       have HVS : Hid (valT (l.take (pos + 1)) = 10 * valT (l.take pos) + ((b.toNat : Int) - 48)) := by unfold Hid; rw [List.take_add_one, hb, Option.toList_some, valT_snoc]
       have hpl : (l.take pos).length ≤ 2 := by rw [List.length_take]; omega
       have hpw := pow10_le hpl
       obtain ⟨c0, c1⟩ := hbd
       have d1 : decide ((48 : Int) ≤ (b.toNat : Int)) = true := by simp; omega
       have d2 : decide ((b.toNat : Int) ≤ 57) = true := by simp; omega
       have d3 : decide ((l.length : Int) ≤ 2) = true := by simp; omega
       have d4 : decide (l.length ≤ 2) = true := by simp; omega
       have d5 : decide (48 ≤ b.toNat) = true := by simp; omega
       have d6 : decide (b.toNat ≤ 57) = true := by simp; omega
       generalize valT (l.take pos) = v at *
       have c2 : v ≤ 1000 := by omega
       have E1' : IntKind.i64.wrap (10 * v) = 10 * v := IntWalk.i64_in _ (by omega)
       have E2 : IntKind.i32.wrap ((b.toNat : Int) - 48) = (b.toNat : Int) - 48 := IntWalk.i32_in _ (by omega)
       have E4 : IntKind.i64.wrap ((b.toNat : Int) - 48) = (b.toNat : Int) - 48 := IntWalk.i64_in _ (by omega)
       have E3 : IntKind.i64.wrap (10 * v + ((b.toNat : Int) - 48)) = 10 * v + ((b.toNat : Int) - 48) := IntWalk.i64_in _ (by omega)
       clear c0 c1 hpw z1
       go_wp2_with (go_at_call 104; refine (HSU.out _ _).mono ?_; rintro e w' ⟨rfl, rfl⟩)
       go_roundw
       case rel => exact ⟨pos + 1, by omega, rfl, by rw [HVS.out], HAL.out⟩
       case measure => simp; omega
      ·have hltz : pos < (⟨l.toArray⟩ : ByteArray).size := by rw [hsz]; exact hp
       have hat := str_at hb hltz
       obtain ⟨r, wd, hrw, hbad⟩ : ∃ r wd : Nat, Utf8.decode ⟨l.toArray⟩ pos = (r, wd) ∧ ¬ (48 ≤ r ∧ r ≤ 57 ∧ l.length ≤ 2) := by
        by_cases h8 : b.toNat < 128
        ·refine ⟨b.toNat, 1, by rw [decode_ascii _ pos hltz (by rw [hat]; exact h8), hat], fun h => hg ⟨?_, h.2.2⟩⟩
         simp only [digB, Bool.and_eq_true, decide_eq_true_eq]; omega
        ·have := (decode_high ⟨l.toArray⟩ pos hltz (by rw [hat]; omega)).1
         exact ⟨(Utf8.decode ⟨l.toArray⟩ pos).1, (Utf8.decode ⟨l.toArray⟩ pos).2, rfl, fun h => by omega⟩
       have hnx : ∀ ty, (Instr.next (.pointer (some ⟨wo.heap.size, 0, none⟩)) true ty).run Tryz.prog (wo.iter ⟨l.toArray⟩ pos) = .ok (.tuple #[.bool true, .int .i64 pos, .int .i32 r]) (wo.iter ⟨l.toArray⟩ (pos + wd)) := fun ty => by
        rw [run_next_any wo ⟨l.toArray⟩ pos ty hltz, hrw]
       have hxo : Ext w (wo.iter ⟨l.toArray⟩ (pos + wd)) := HXW.out.alloc _
       clear hg hat hrw hltz hb z1
       generalize valT (l.take pos) = v at *
       by_cases h1 : 48 ≤ r
       ·have d1 : decide ((48 : Int) ≤ (r : Int)) = true := by simp; omega
        have d1n : decide (48 ≤ r) = true := by simpa using h1
        by_cases h2 : r ≤ 57
        ·have d2 : decide ((r : Int) ≤ 57) = true := by simp; omega
         have d2n : decide (r ≤ 57) = true := by simpa using h2
         have d3 : decide ((l.length : Int) ≤ 2) = false := by simp; omega
         have d3n : decide (l.length ≤ 2) = false := by simp; omega
         clear h1 h2 hbad
         go_wp2_with (go_at_call 104; refine (HSN.out _ _).mono ?_; rintro e w' ⟨why, rfl, hx⟩)
         exact ⟨rfl, .inr ⟨HNO.out, why, rfl, hxo.trans hx⟩⟩
        ·have d2 : decide ((r : Int) ≤ 57) = false := by simp; omega
         have d2n : decide (r ≤ 57) = false := by simpa using h2
         clear h1 h2 hbad
         go_wp2_with (go_at_call 104; refine (HSN.out _ _).mono ?_; rintro e w' ⟨why, rfl, hx⟩)
         exact ⟨rfl, .inr ⟨HNO.out, why, rfl, hxo.trans hx⟩⟩
       ·have d1 : decide ((48 : Int) ≤ (r : Int)) = false := by simp; omega
        have d1n : decide (48 ≤ r) = false := by simpa using h1
        clear h1 hbad
        go_wp2_with (go_at_call 104; refine (HSN.out _ _).mono ?_; rintro e w' ⟨why, rfl, hx⟩)
        exact ⟨rfl, .inr ⟨HNO.out, why, rfl, hxo.trans hx⟩⟩
     ·have hpe : pos = l.length := by omega
      have hnx : ∀ ty, (Instr.next (.pointer (some ⟨wo.heap.size, 0, none⟩)) true ty).run Tryz.prog (wo.iter ⟨l.toArray⟩ pos) = _ := fun ty => run_next_end wo ⟨l.toArray⟩ pos ty (by rw [size_str]; exact hp)
      have hts : l.take pos = l := List.take_of_length_le (by omega)
      have hd := hall.out.1
      rw [hts] at hd ⊢
      by_cases he : l = []
      ·have hse : l.isEmpty = true := by rw [he]; rfl
       clear hpe hts hd he hall HBD HN hsz z1
       go_wp2_with (go_at_call 104; refine (HSN.out _ _).mono ?_; rintro e w' ⟨why, rfl, hx⟩)
       exact ⟨rfl, .inr ⟨HNO.out, why, rfl, hxi.trans hx⟩⟩
      ·have hse : l.isEmpty = false := by simpa using he
       have h6 : l.length ≤ 2 := by
        rcases hall.out.2 with h | h
        ·exfalso; exact he (List.length_eq_zero_iff.1 (by omega))
        ·exact h
       have hbd := val_bd hd l.length
       rw [List.take_of_length_le (Nat.le_refl _)] at hbd
       have hpw := pow10_le h6
       have hne : ¬ Lib.itoa (valT l) = l := fun e => by
        have := HN.out
        unfold numOk at this
        rw [hd, decide_eq_true e, decide_eq_true he, decide_eq_true h6] at this
        cases this
       have HQ := Lib.hid (fun w1 (hx : Ext w w1) => HIT.out w1 hx (valT l) hbd.1 (by omega))
       have q1 : decide (Lib.itoa (valT l) = l) = false := by simpa using hne
       have q2 : (Lib.itoa (valT l) == l) = false := by simpa using hne
       clear hpe hts hd he h6 hbd hpw hall HBD z1
       generalize Lib.itoa (valT l) = qq at *
       go_wp2_with (first
        | (go_at_call 130; refine (HQ.out _ hxi).mono ?_; rintro e w1 ⟨rfl, hx1⟩)
        | (go_at_call 104; refine (HSN.out _ _).mono ?_; rintro e w' ⟨why, rfl, hx⟩))
       exact ⟨rfl, .inr ⟨HNO.out, why, rfl, (hxi.trans hx1).trans hx⟩⟩
  ·have hje : j = M := by omega
   have HF : Hid (wr.ownsRow w.heap.size 3 1 u8 (toldN s).length ((toldN s).map (.int .i64))) := by
    have htl := HTLD.out
    unfold Hid
    rw [htl, ← hje]
    have := owns_down hown HX1.out.size
    rwa [List.take_of_length_le (by omega)] at this
   have HAX : Hid (∀ x, x ∈ (splitL 32 s).drop 1 → numOk x = true) := fun x hx => hal.out x (by rw [List.take_of_length_le (by rw [List.length_drop, HL.out]; omega)]; exact hx)
   have HXR := Lib.hid hx
   have x1 : decide ((j : Int) < (M : Int)) = false := by simpa using hlt
   clear hje hown hx
   go_wp2
   go_ret
   exact .inl ⟨HAX.out, _, rfl, HX1.out.trans HXR.out, HF.out⟩
theorem told_ok (s word : List UInt8) (M : Nat) (w : World) (ht : TabOk w) (hm : MaxOk w) (hs : s.length ≤ 1000) (hM : 1 ≤ M ∧ M ≤ 3000) (h : toldOk word M s = true) : Calls Tryz.prog 106 #[strV s, strV word, .int .i64 M] w fun e w' => ∃ v1, e = .returned v1 ∧ Ext w w' ∧ w'.ownsRow w.heap.size 3 1 v1 (toldN s).length ((toldN s).map (.int .i64)) := by
 unfold toldOk at h
 simp only [Bool.and_eq_true, decide_eq_true_eq, List.all_eq_true] at h
 refine (told_go s word M w ht hm hs hM h.1.1 h.1.2).mono fun e w' hp => ?_
 rcases hp with ⟨_, hp⟩ | ⟨hn, _⟩
 ·exact hp
 ·exact absurd h.2 hn
theorem told_no (s word : List UInt8) (M : Nat) (w : World) (ht : TabOk w) (hm : MaxOk w) (hs : s.length ≤ 1000) (hM : 1 ≤ M ∧ M ≤ 3000) (h : toldOk word M s = false) : Calls Tryz.prog 106 #[strV s, strV word, .int .i64 M] w (NoneP w) := by
 by_cases h1 : (splitL 32 s).length = M + 1
 ·by_cases h2 : (splitL 32 s).headD [] = word
  ·refine (told_go s word M w ht hm hs hM h1 h2).mono fun e w' hp => ?_
   rcases hp with ⟨h3, _⟩ | ⟨_, hp⟩
   ·unfold toldOk at h
    rw [decide_eq_true h1, decide_eq_true h2, List.all_eq_true.2 h3] at h
    cases h
   ·exact hp
  ·exact told_word s word M w hm hs hM h1 h2
 ·exact told_len s word M w hm hs hM h1
end Go.Proofs.YtokananogogjaaaGreatDoor
