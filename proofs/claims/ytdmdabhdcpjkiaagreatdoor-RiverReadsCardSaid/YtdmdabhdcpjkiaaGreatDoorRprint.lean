/- The reference's Decimal, line, number. -/
import Derived.Test.YtdmdabhdcpjkiaaGreatDoorTextp
import Derived.Test.YtdmdabhdcpjkiaaGreatDoorTold
import Derived.Laws.IdiomStrings
namespace Go.Proofs.YtdmdabhdcpjkiaaGreatDoor
open Go.RowKit
theorem str_app (a b : List UInt8) : (({ data := a.toArray } : ByteArray) ++ ({ data := b.toArray } : ByteArray)) = { data := (a ++ b).toArray } := by
 apply ByteArray.ext; simp
theorem str_step3 (a b : List UInt8) : Value.string ((({ data := a.toArray } : ByteArray) ++ ({ data := #[32] } : ByteArray)) ++ ({ data := b.toArray } : ByteArray)) = strV (a ++ (32 :: b)) := by
 rw [show (({ data := #[32] } : ByteArray)) = { data := ([32] : List UInt8).toArray } from rfl, str_app, str_app, List.append_assoc]; rfl
/-- A byte alone, as a string. -/
theorem conv_one (w : World) (x : Int) (b : UInt8) (hb : (b.toNat : Int) = x) : (convert 69 9 (.slice (some ⟨w.heap.size, 0, none⟩) 1 1)).run Tryz.prog (w.alloc (.cells #[.int .u8 x] 5)) = .ok (strV [b]) (w.alloc (.cells #[.int .u8 x] 5)) := by
 refine run_convert_bytes_back (P := Tryz.prog) _ 69 9 5 ⟨w.heap.size, 0, none⟩ 1 [b] (by kernel_rfl) (by kernel_rfl) Tryz.underlying9 (fun j hj => ?_)
 have : j = 0 := by simpa using hj
 subst this
 subst hb
 have h := World.alloc_heap_new w (.cells #[.int .u8 (b.toNat : Int)] 5)
 show World.cell? _ (⟨w.heap.size, 0, none⟩ : Addr) = _
 unfold World.cell?
 simp only [h]
 rfl
set_option maxRecDepth 100000 in
set_option maxHeartbeats 4000000 in
theorem rdec_any (n : Nat) (w : World) (hn : n ≤ 1000000000000) : Calls Tryz.prog 66 #[.int .i64 (n : Int)] w fun e w' => e = .returned (strV (Lib.itoa (n : Int))) ∧ Ext w w' := by
 have hmix : Tryz.prog.follows .mixedOrders = true := by kernel_rfl
 have hL := Lib.itoa_length_le (n : Int) (by omega) (by omega)
 have hI : Lib.itoa (n : Int) = decHead n ++ [digitB n] := by rw [Lib.itoa_nonneg]; exact dec_last n
 have t0 : decide ((n : Int) < 0) = false := by simp
 have E1 : IntKind.i64.wrap (48 + (n : Int) % 10) = 48 + (n : Int) % 10 := IntWalk.i64_in _ (by omega)
 have E2 : IntKind.u8.wrap (48 + (n : Int) % 10) = 48 + (n : Int) % 10 := by rw [IntKind.wrap_u8]; omega
 have C1 := fun w => conv_one w (48 + (n : Int) % 10) (digitB n) (by rw [digitB_nat]; omega)
 have HI := Lib.hid hI
 go_enter Tryz.func66, Tryz.ntmps66
 go_wp2
 go_loopw [0, 3] (fun nv sv wr => ∃ (m : Nat) (q : List UInt8), m ≤ n ∧ nv = .int .i64 (m : Int) ∧ sv = strV q ∧ Hid (Lib.itoa (n : Int) = decHead m ++ q) ∧ q.length ≤ 21 ∧ Ext w wr) (fun nv _ _ => (intOf nv).toNat)
 case atStart => exact ⟨n, [digitB n], Nat.le_refl _, rfl, rfl, HI.out, by simp, (Ext.refl w).alloc _⟩
 case round =>
  obtain ⟨m, q, hm, rfl, rfl, hq, hql, hx⟩ := hrel
  by_cases h10 : m < 10
  ·have x1 : decide (10 ≤ (m : Int)) = false := by simp; omega
   have x2 : decide (10 ≤ m) = false := by simp; omega
   have HE : Hid (Lib.itoa (n : Int) = q) := by unfold Hid; rw [hq.out, dec_end h10]
   go_wp2
   go_ret
   exact ⟨by rw [HE.out]; rfl, hx⟩
  ·have x1 : decide (10 ≤ (m : Int)) = true := by simp; omega
   have x2 : decide (10 ≤ m) = true := by simp; omega
   obtain ⟨m', hm'⟩ : ∃ m', m / 10 = m' := ⟨_, rfl⟩
   have HQ : Hid (Lib.itoa (n : Int) = decHead m' ++ (digitB m' :: q)) := by unfold Hid; rw [hq.out, dec_step h10, hm']
   have hl2 : (digitB m' :: q).length ≤ 21 := by
    have h1 := congrArg List.length HQ.out
    rw [List.length_append] at h1
    omega
   have hl3 : ¬ 9223372036854775807 < 1 + q.length := by omega
   have e0 : (m : Int) / 10 = (m' : Int) := by omega
   have hmm : m' ≤ n ∧ m' < m := by omega
   have HMM := Lib.hid hmm
   have C2 := fun w => conv_one w (48 + (m' : Int) % 10) (digitB m') (by rw [digitB_nat]; omega)
   have E3 : IntKind.i64.wrap (48 + (m' : Int) % 10) = 48 + (m' : Int) % 10 := IntWalk.i64_in _ (by omega)
   have E4 : IntKind.u8.wrap (48 + (m' : Int) % 10) = 48 + (m' : Int) % 10 := by rw [IntKind.wrap_u8]; omega
   have HST : ∀ a b : List UInt8, Value.string (({ data := a.toArray } : ByteArray) ++ ({ data := b.toArray } : ByteArray)) = strV (a ++ b) := fun a b => by rw [str_app]
   have HST := Lib.hid HST
   clear hm' hmm
   go_wp2
   refine ⟨⟨m', digitB m' :: q, HMM.out.1, rfl, HST.out [digitB m'] q, HQ.out, hl2, hx.alloc _⟩, ?_⟩
   have := HMM.out.2
   simp [intOf]; omega
theorem rdecI_any (y : Int) (w : World) (h0 : 0 ≤ y) (h1 : y ≤ 1000000000000) : Calls Tryz.prog 66 #[.int .i64 y] w fun e w' => e = .returned (strV (Lib.itoa y)) ∧ Ext w w' := by
 obtain ⟨n, rfl⟩ := Int.eq_ofNat_of_zero_le h0
 exact rdec_any n w (by omega)
set_option maxRecDepth 100000 in
set_option maxHeartbeats 4000000 in
theorem rline_any (word : List UInt8) (v : Value) (ns : List Int) (w : World) (hv : IntsAt w v ns) (hb : ∀ y, y ∈ ns → 0 ≤ y ∧ y ≤ 2000000) (hn : ns.length ≤ 302) (hw : word.length ≤ 10) :
  Calls Tryz.prog 65 #[strV word, v] w fun e w' => e = .returned (strV (lineT word ns)) ∧ Ext w w' := by
 have hmix : Tryz.prog.follows .mixedOrders = true := by kernel_rfl
 obtain ⟨a, c, rfl, h1, h2, h3⟩ := hv.open
 have H3 := Lib.hid h3
 have HB := Lib.hid hb
 clear hv h3 hb
 go_enter Tryz.func65, Tryz.ntmps65
 go_wp2
 go_loopw [5, 6] (fun sv i wr => ∃ k : Nat, k ≤ ns.length ∧ i = .int .i64 k ∧ sv = strV (lineT word (ns.take k)) ∧ Ext w wr) (fun _ i _ => ns.length - (intOf i).toNat)
 case atStart => exact ⟨0, Nat.zero_le _, rfl, by simp [lineT, numsT], Ext.refl _⟩
 case round =>
  obtain ⟨k, hk, rfl, rfl, hx⟩ := hrel
  by_cases hlt : k < ns.length
  ·obtain ⟨b, o, y, rfl, hy, hc⟩ := H3.out k hlt
   obtain ⟨y0, y1⟩ := HB.out y (List.mem_of_getElem? hy.out)
   have hc' := hx.cell hc
   have x2 : decide ((k : Int) < (ns.length : Int)) = true := by simpa using hlt
   have hl1 : (lineT word (ns.take k)).length ≤ 7000 := by
    have := lineT_len (word := word) (ns := ns.take k) (fun y hy => HB.out y (List.mem_of_mem_take hy))
    have h2 : (ns.take k).length ≤ 302 := by rw [List.length_take]; omega
    omega
   have hl2 := Lib.itoa_length_le y (by omega) (by omega)
   have hd1 : ¬ 9223372036854775807 < (lineT word (ns.take k)).length + 1 := by omega
   have hd2 : ¬ 9223372036854775807 < (lineT word (ns.take k)).length + 1 + (Lib.itoa y).length := by omega
   have HST := Lib.hid (lineT_step word hy.out)
   have HD := Lib.hid (fun w1 => rdecI_any y w1 y0 (by omega))
   clear hc hl1 hl2 y0 y1
   go_wp2_with (go_at_call 66; refine (HD.out _).mono ?_; rintro e w3 ⟨rfl, hx3⟩)
   exact ⟨⟨k + 1, by omega, by go_num, by rw [HST.out]; exact str_step3 _ _, hx.trans hx3⟩, by simp [intOf]; omega⟩
  ·have hke : k = ns.length := by omega
   subst hke
   have x2 : decide ((ns.length : Int) < (ns.length : Int)) = false := by simp
   have HT : Hid (ns.take ns.length = ns) := List.take_of_length_le (Nat.le_refl _)
   go_wp2
   go_ret
   exact ⟨by rw [HT.out]; rfl, hx⟩
/-- What the reference's number answers. -/
def numR (s : List UInt8) : Int := if numOk s = true then valT s else -1
set_option maxRecDepth 100000 in
set_option maxHeartbeats 8000000 in
theorem rnumber_any (s : List UInt8) (w : World) : Calls Tryz.prog 117 #[strV s] w fun e w' => e = .returned (.int .i64 (numR s)) ∧ Ext w w' := by
 have hmix : Tryz.prog.follows .mixedOrders = true := by kernel_rfl
 have hsz := size_str s
 by_cases he : s = []
 ·have HF : Hid (numR s = -1) := by unfold Hid numR; rw [if_neg]; subst he; decide
  have t1 : decide ((s.length : Int) = 0) = true := by subst he; rfl
  have t2 : ((s.length : Int) == 0) = true := by subst he; rfl
  have t3 : (s.length == 0) = true := by subst he; rfl
  have t4 : s.isEmpty = true := by subst he; rfl
  clear he
  go_enter Tryz.func117, Tryz.ntmps117
  go_wp2
  go_ret
  exact ⟨by rw [HF.out]; rfl, Ext.refl _⟩
 ·have hl0 : 0 < s.length := List.length_pos_iff.2 he
  have t2 : ((s.length : Int) == 0) = false := by rw [beq_eq_false_iff_ne]; omega
  have t3 : (s.length == 0) = false := by rw [beq_eq_false_iff_ne]; omega
  have t4 : s.isEmpty = false := by simpa using he
  by_cases h6 : 3 < s.length
  ·have HF : Hid (numR s = -1) := by unfold Hid numR; rw [if_neg]; intro h; have := (num_ok h).2.2.2.2.1; omega
   have u1 : decide (3 < (s.length : Int)) = true := by simp; omega
   have u2 : decide (3 < s.length) = true := by simpa using h6
   go_enter Tryz.func117, Tryz.ntmps117
   go_wp2
   go_ret
   exact ⟨by rw [HF.out]; rfl, Ext.refl _⟩
  ·have u1 : decide (3 < (s.length : Int)) = false := by simp; omega
   have u2 : decide (3 < s.length) = false := by simpa using h6
   have HNE := Lib.hid he
   clear he hl0
   go_enter Tryz.func117, Tryz.ntmps117
   go_wp2
   go_loopw [3, 4] (fun nv iv wr => ∃ k : Nat, k ≤ s.length ∧ iv = .int .i64 k ∧ nv = .int .i64 (valT (s.take k)) ∧ Hid ((s.take k).all digB = true) ∧ wr = w) (fun _ iv _ => s.length - (intOf iv).toNat)
   case atStart => exact ⟨0, Nat.zero_le _, rfl, rfl, by simp [Hid], rfl⟩
   case round =>
    obtain ⟨k, hk, rfl, rfl, hal, rfl⟩ := hrel
    have hbd := val_bd hal.out k
    rw [List.take_take, Nat.min_self] at hbd
    have hpl : (s.take k).length ≤ 3 := by rw [List.length_take]; omega
    have hpw := pow10_le hpl
    obtain ⟨c0, c1⟩ := hbd
    have c2 : valT (s.take k) ≤ 1000 := by omega
    clear hpl hpw c1
    by_cases hlt : k < s.length
    ·obtain ⟨b, hb⟩ : ∃ b, Hid (s[k]? = some b) := ⟨_, List.getElem?_eq_getElem hlt⟩
     have hat := str_at hb.out (by rw [hsz]; exact hlt)
     have x1 : decide ((k : Int) < (s.length : Int)) = true := by simpa using hlt
     have hb9 : b.toNat < 256 := b.toNat_lt
     by_cases g1 : b.toNat < 48
     ·have HF : Hid (numR s = -1) := by
       unfold Hid numR; rw [if_neg]; intro h
       have h9 := (num_ok h).2.2.2.2.2
       rw [List.all_eq_true] at h9
       have := h9 b (List.mem_of_getElem? hb.out)
       simp only [digB, Bool.and_eq_true, decide_eq_true_eq] at this; omega
      have d1 : decide ((b.toNat : Int) < 48) = true := by simp; omega
      have d2 : decide (b.toNat < 48) = true := by simpa using g1
      go_wp2
      go_ret
      exact ⟨by rw [HF.out]; rfl, Ext.refl _⟩
     ·have d1 : decide ((b.toNat : Int) < 48) = false := by simp; omega
      have d2 : decide (b.toNat < 48) = false := by simpa using g1
      by_cases g2 : 57 < b.toNat
      ·have HF : Hid (numR s = -1) := by
        unfold Hid numR; rw [if_neg]; intro h
        have h9 := (num_ok h).2.2.2.2.2
        rw [List.all_eq_true] at h9
        have := h9 b (List.mem_of_getElem? hb.out)
        simp only [digB, Bool.and_eq_true, decide_eq_true_eq] at this; omega
       have d3 : decide (57 < (b.toNat : Int)) = true := by simp; omega
       have d4 : decide (57 < b.toNat) = true := by simpa using g2
       go_wp2
       go_ret
       exact ⟨by rw [HF.out]; rfl, Ext.refl _⟩
      ·have d3 : decide (57 < (b.toNat : Int)) = false := by simp; omega
       have d4 : decide (57 < b.toNat) = false := by simpa using g2
       have HVS : Hid (valT (s.take (k + 1)) = 10 * valT (s.take k) + ((b.toNat : Int) - 48)) := by unfold Hid; rw [List.take_add_one, hb.out, Option.toList_some, valT_snoc]
       have HAL : Hid ((s.take (k + 1)).all digB = true) := by
        unfold Hid; rw [List.take_add_one, hb.out, Option.toList_some, List.all_append, hal.out]
        simp only [List.all_cons, List.all_nil, Bool.and_true, Bool.true_and, digB, Bool.and_eq_true, decide_eq_true_eq]; omega
       generalize valT (s.take k) = v at *
       have E1 : IntKind.i64.wrap (10 * v) = 10 * v := IntWalk.i64_in _ (by omega)
       have E2 : IntKind.u8.wrap ((b.toNat : Int) - 48) = (b.toNat : Int) - 48 := by rw [IntKind.wrap_u8]; omega
       have E4 : IntKind.i64.wrap ((b.toNat : Int) - 48) = (b.toNat : Int) - 48 := IntWalk.i64_in _ (by omega)
       have E3 : IntKind.i64.wrap (10 * v + ((b.toNat : Int) - 48)) = 10 * v + ((b.toNat : Int) - 48) := IntWalk.i64_in _ (by omega)
       go_wp2
       exact ⟨⟨k + 1, by omega, by go_num, by rw [HVS.out], HAL.out, trivial⟩, by simp [intOf]; omega⟩
    ·have hke : k = s.length := by omega
     subst hke
     have HTS : Hid (s.take s.length = s) := List.take_of_length_le (Nat.le_refl _)
     rw [HTS.out] at hal c0 c2 ⊢
     have x1 : decide ((s.length : Int) < (s.length : Int)) = false := by simp
     have HD := Lib.hid (fun w1 => rdecI_any (valT s) w1 c0 (by omega))
     by_cases hq : Lib.itoa (valT s) = s
     ·have HF : Hid (numR s = valT s) := by
       unfold Hid numR; rw [if_pos]
       unfold numOk
       rw [hal.out, decide_eq_true hq, decide_eq_true HNE.out, decide_eq_true (show s.length ≤ 3 by omega)]; rfl
      rw [hq] at HD
      clear hq
      go_wp2_with (go_at_call 66; refine (HD.out _).mono ?_; rintro e w1 ⟨rfl, hx1⟩)
      go_ret
      exact ⟨by rw [HF.out]; rfl, hx1⟩
     ·have HF : Hid (numR s = -1) := by
       unfold Hid numR; rw [if_neg]; intro h; exact hq (num_ok h).2.2.1
      have q1 : decide (Lib.itoa (valT s) = s) = false := by simpa using hq
      have q2 : (Lib.itoa (valT s) == s) = false := by simpa using hq
      have q3 : (Lib.itoa (valT s) != s) = true := by simpa using hq
      clear hq
      generalize Lib.itoa (valT s) = q at *
      go_wp2_with (go_at_call 66; refine (HD.out _).mono ?_; rintro e w1 ⟨rfl, hx1⟩)
      go_ret
      exact ⟨by rw [HF.out]; rfl, hx1⟩
end Go.Proofs.YtdmdabhdcpjkiaaGreatDoor

/- The reference's Print: the text of a book. -/
namespace Go.Proofs.YtdmdabhdcpjkiaaGreatDoor
open Go.RowKit
theorem rend_str (J a b c : List UInt8) : Value.string (((((({ data := J.toArray } : ByteArray) ++ ({ data := #[101, 110, 100, 32] } : ByteArray)) ++ ({ data := a.toArray } : ByteArray)) ++ ({ data := b.toArray } : ByteArray)) ++ ({ data := c.toArray } : ByteArray)) ++ ({ data := #[10] } : ByteArray)) = strV (J ++ ([101, 110, 100, 32] ++ (a ++ (b ++ (c ++ [10]))))) := by
 rw [show (({ data := #[101, 110, 100, 32] } : ByteArray)) = { data := ([101, 110, 100, 32] : List UInt8).toArray } from rfl, show (({ data := #[10] } : ByteArray)) = { data := ([10] : List UInt8).toArray } from rfl, ba_app, ba_app, ba_app, ba_app, ba_app]
 simp
theorem rdown_str (J l : List UInt8) : Value.string ((({ data := J.toArray } : ByteArray) ++ ({ data := l.toArray } : ByteArray)) ++ ({ data := #[10] } : ByteArray)) = strV (J ++ (l ++ [10])) := by
 rw [show (({ data := #[10] } : ByteArray)) = { data := ([10] : List UInt8).toArray } from rfl, ba_app, ba_app]
 simp
theorem down_len {L : List (List UInt8)} (h : ∀ l, l ∈ L → l.length ≤ 300) : (downL L).length ≤ 301 * L.length := by
 induction L with
 | nil => simp [downL]
 | cons x L ih =>
  have h1 := h x (by simp)
  have h2 := ih (fun l hl => h l (by simp [hl]))
  have : downL (x :: L) = x ++ [10] ++ downL L := by simp [downL]
  rw [this, List.length_append, List.length_append, List.length_singleton, List.length_cons]; omega
set_option maxRecDepth 100000 in
set_option maxHeartbeats 16000000 in
theorem rprint_any (v : Value) (b : Book) (w : World) (hb : BookAt w v b) (hB : TextB b) :
  Calls Tryz.prog 27 #[v] w fun e w' => e = .returned (strV (textT b)) ∧ Ext w w' := by
 obtain ⟨rv, rfl, hr⟩ := hb
 obtain ⟨ra, rc, rfl, r1, r2, r3⟩ := hr.open
 have HR3 := Lib.hid r3
 have hn3 := hB.n
 have HBB := Lib.hid hB
 have hbk : ∀ y, y ∈ [b.years, (b.rivers.length : Int)] → 0 ≤ y ∧ y ≤ 2000000 := fun y hy => by
  have h1 := hB.y
  simp at hy
  rcases hy with rfl | rfl <;> omega
 have HL1 := Lib.hid (fun (w1 : World) (hi : IntsAt w1 (.slice (some ⟨w.heap.size + 1, 0, none⟩) 2 2) [b.years, (b.rivers.length : Int)]) => rline_any wBook _ _ w1 hi hbk (by simp) (by decide))
 have HLR := Lib.hid (fun (r : River) (hr : r ∈ b.rivers) (v : Value) (w1 : World) (hi : IntsAt w1 v r.nums) => rline_any wRiver v r.nums w1 hi (fun y hy => by have := hB.nums r hr y hy; omega) (by have := nums_length r; have := hB.grow r hr; omega) (by decide))
 have hx0 : Ext w (w.alloc (.cells #[.int .i64 b.years, .slice ra b.rivers.length rc] 24)) := (Ext.refl w).alloc _
 obtain ⟨W0, hW0⟩ : ∃ W0, W0 = w.alloc (.cells #[.int .i64 b.years, .slice ra b.rivers.length rc] 24) := ⟨_, rfl⟩
 have HXW := Lib.hid (show Ext w W0 by rw [hW0]; exact hx0)
 have HC := Lib.hid (fun W (h : Ext W0 W) => (⟨h.cell (by rw [hW0]; go_simp), h.cell (by rw [hW0]; go_simp)⟩ : W.cell? ⟨w.heap.size, 0, none⟩ = some (.int .i64 b.years) ∧ W.cell? ⟨w.heap.size, 1, none⟩ = some (.slice ra b.rivers.length rc)))
 have HW0 := Lib.hid hW0
 have HXZ := Lib.hid (show W0.heap.size = w.heap.size + 1 by rw [hW0]; simp)
 have hmix : Tryz.prog.follows .mixedOrders = true := by kernel_rfl
 clear r3 hr hB hbk hx0 hW0
 go_enter Tryz.func27, Tryz.ntmps27
 go_wp2_with (go_at_call 65; refine (HL1.out _ (two_ints _ _ _ _ (by go_simp) (by go_simp))).mono ?_; rintro e w1 ⟨rfl, hx1⟩)
 have hxb : Ext W0 w1 := by rw [HW0.out]; exact ((Ext.refl _).alloc _).trans hx1
 have hzs : w.heap.size + 1 ≤ w1.heap.size := by have := hx1.size; simp at this; omega
 have hown0 := owns_one (w := w1) (base := w.heap.size + 1) (e := 9) (strV (lineT wBook [b.years, (b.rivers.length : Int)])) hzs
 have hxb2 := hxb.alloc (.cells #[strV (lineT wBook [b.years, (b.rivers.length : Int)])] 9)
 clear hx1 hxb HW0
 go_loopw [3, 4] (fun lv i wr => ∃ k : Nat, k ≤ b.rivers.length ∧ i = .int .i64 k ∧ wr.ownsRow (w.heap.size + 1) 9 1 lv (k + 1) ((linesUp b k).map strV) ∧ Ext W0 wr ∧ w.heap.size + 1 ≤ wr.heap.size) (fun _ i _ => b.rivers.length - (intOf i).toNat)
 case atStart => exact ⟨0, Nat.zero_le _, rfl, hown0, hxb2, by simp; omega⟩
 case round =>
  clear hown0 hxb2 hzs
  obtain ⟨k, hk, rfl, hown, hx, hzr⟩ := hrel
  obtain ⟨wo, rfl⟩ : ∃ wo : World, wo = wr := ⟨_, rfl⟩
  obtain ⟨z0, z1⟩ := HC.out _ hx
  by_cases hlt : k < b.rivers.length
  ·have x2 : decide ((k : Int) < (b.rivers.length : Int)) = true := by simpa using hlt
   have i1 : (0 : Int) ≤ (k : Int) := by omega
   have i2 : (k : Int) < (b.rivers.length : Int) := by omega
   obtain ⟨rb, ro, gv, R, rfl, hR, d0, d1, d2, hg⟩ := HR3.out k hlt
   have hRm := List.mem_of_getElem? hR.out
   have hs3 := HBB.out.grow R hRm
   have HNL := Lib.hid (nums_length R)
   have HD := Lib.hid (fun W (h : Ext W0 W) => (⟨(HXW.out.trans h).cell d0, (HXW.out.trans h).cell d1, (HXW.out.trans h).cell d2⟩ : W.cell? ⟨rb, ro + k * 3, none⟩ = some gv ∧ W.cell? ⟨rb, ro + k * 3 + 1, none⟩ = some (.int .i64 R.vary) ∧ W.cell? ⟨rb, ro + k * 3 + 2, none⟩ = some (.int .i64 R.closed)))
   obtain ⟨e0, e1, e2⟩ := HD.out _ hx
   obtain ⟨ga, gc, rfl, g1, g2, g3⟩ := hg.open
   have HG := Lib.hid g3
   have HUP := Lib.hid (linesUp_succ hR.out)
   have HLN := Lib.hid (fun v w1 hi => HLR.out R hRm v w1 hi)
   have HOWN := Lib.hid hown
   have HX := Lib.hid hx
   have HSZ := Lib.hid (show k + 1 + 1 ≤ maxLen ∧ (k + 1 + 1) * 16 ≤ 140737488355328 by unfold maxLen; omega)
   obtain ⟨_, _, rfl, _⟩ := RowAt.open (RowAt.of_owns hown)
   have HS5 := Lib.hid (fun W (h : Ext wo W) => (⟨(HC.out _ (HX.out.trans h)).2, (HD.out _ (HX.out.trans h)).2.1, (HD.out _ (HX.out.trans h)).2.2⟩ : W.cell? ⟨w.heap.size, 1, none⟩ = some (.slice (some ⟨rb, ro, none⟩) b.rivers.length rc) ∧ W.cell? ⟨rb, ro + k * 3 + 1, none⟩ = some (.int .i64 R.vary) ∧ W.cell? ⟨rb, ro + k * 3 + 2, none⟩ = some (.int .i64 R.closed)))
   clear g3 hg d0 d1 d2 hown hx
   go_upto_region 5 with fail
   clear z0 z1 e0 e1 e2
   refine wp_region_held_drew (S := (fun W => W.cell? ⟨w.heap.size, 1, none⟩ = some (.slice (some ⟨rb, ro, none⟩) b.rivers.length rc) ∧ W.cell? ⟨rb, ro + k * 3 + 1, none⟩ = some (.int .i64 R.vary) ∧ W.cell? ⟨rb, ro + k * 3 + 2, none⟩ = some (.int .i64 R.closed))) (by kernel_rfl) ?_ (fun hHeld => ?_)
   ·exact HS5.out _ (by repeat (first | exact Ext.refl _ | apply Ext.drew | apply Ext.alloc))
   refine hTk (i := 0) (d := some 26) (v := ?_) (fun o ho => ?_) hHeld ?_
   rotate_left
   ·simp only [zA, zB, zD] at ho
    subst ho
    refine ⟨by rfl, fun w hSw => ?_⟩
    (try dsimp only at hSw)
    go_simp
    try with_reducible rfl
   try simp only [Act.put, yA, yB, yC]
   refine hTk (i := 1) (d := some 27) (v := ?_) (fun o ho => ?_) hHeld ?_
   rotate_left
   ·simp only [zA, zB, zC, zD] at ho
    subst ho
    refine ⟨by rfl, fun w hSw => ?_⟩
    (try dsimp only at hSw)
    go_simp
    try with_reducible rfl
   try simp only [Act.put, yA, yB, yC]
   refine hTk (i := 2) (d := some 28) (v := ?_) (fun o ho => ?_) hHeld ?_
   rotate_left
   ·simp only [zA, zB, zC, zD] at ho
    subst ho
    refine ⟨by rfl, fun w hSw => ?_⟩
    (try dsimp only at hSw)
    go_simp
    try with_reducible rfl
   try simp only [Act.put, yA, yB, yC]
   refine hTk (i := 3) (d := some 29) (v := ?_) (fun o ho => ?_) hHeld ?_
   rotate_left
   ·simp only [zA, zB, zC, zD] at ho
    subst ho
    refine ⟨by rfl, fun w hSw => ?_⟩
    (try dsimp only at hSw)
    go_simp
    try with_reducible rfl
   try simp only [Act.put, yA, yB, yC]
   refine hTk (i := 4) (d := some 30) (v := ?_) (fun o ho => ?_) hHeld ?_
   rotate_left
   ·simp only [zA, zB, zC, zD] at ho
    subst ho
    refine ⟨by rfl, fun w hSw => ?_⟩
    (try dsimp only at hSw)
    go_simp
    try with_reducible rfl
   try simp only [Act.put, yA, yB, yC]
   refine hTk (i := 5) (d := some 31) (v := ?_) (fun o ho => ?_) hHeld ?_
   rotate_left
   ·simp only [zA, zB, zC, zD] at ho
    subst ho
    refine ⟨by rfl, fun w hSw => ?_⟩
    (try dsimp only at hSw)
    go_simp
    try with_reducible rfl
   try simp only [Act.put, yA, yB, yC]
   refine hTk (i := 6) (d := some 32) (v := ?_) (fun o ho => ?_) hHeld ?_
   rotate_left
   ·simp only [zA, zB, zC, zD] at ho
    subst ho
    refine ⟨by rfl, fun w hSw => ?_⟩
    (try dsimp only at hSw)
    go_simp
    try with_reducible rfl
   try simp only [Act.put, yA, yB, yC]
   refine hTk (i := 7) (d := some 33) (v := ?_) (fun o ho => ?_) hHeld ?_
   rotate_left
   ·simp only [zA, zB, zC, zD] at ho
    subst ho
    refine ⟨by rfl, fun w hSw => ?_⟩
    (try dsimp only at hSw)
    go_simp
    try with_reducible rfl
   try simp only [Act.put, yA, yB, yC]
   refine hTk (i := 8) (d := some 34) (v := ?_) (fun o ho => ?_) hHeld ?_
   rotate_left
   ·simp only [zA, zB, zC, zD] at ho
    subst ho
    refine ⟨by rfl, fun w hSw => ?_⟩
    (try dsimp only at hSw)
    go_simp
    try with_reducible rfl
   try simp only [Act.put, yA, yB, yC]
   refine hTk (i := 9) (d := some 35) (v := ?_) (fun o ho => ?_) hHeld ?_
   rotate_left
   ·simp only [zA, zB, zC, zD] at ho
    subst ho
    refine ⟨by rfl, fun w hSw => ?_⟩
    (try dsimp only at hSw)
    go_simp
    try with_reducible rfl
   try simp only [Act.put, yA, yB, yC]
   refine hTk (i := 10) (d := some 36) (v := ?_) (fun o ho => ?_) hHeld ?_
   rotate_left
   ·simp only [zA, zB, zC, zD] at ho
    subst ho
    refine ⟨by rfl, fun w hSw => ?_⟩
    (try dsimp only at hSw)
    go_simp
    try with_reducible rfl
   try simp only [Act.put, yA, yB, yC]
   refine hTk (i := 11) (d := some 37) (v := ?_) (fun o ho => ?_) hHeld ?_
   rotate_left
   ·simp only [zA, zB, zC, zD] at ho
    subst ho
    refine ⟨by rfl, fun w hSw => ?_⟩
    (try dsimp only at hSw)
    go_simp
    try with_reducible rfl
   try simp only [Act.put, yA, yB, yC]
   refine wpAnyH_ready (rs := [12]) (by kernel_rfl) (by simp) ?_
   refine held_step (i := 12) (by kernel_rfl) (fun o ho K' hK => ?_) ?_
   ·simp only [zA, zB, zC, zD] at ho
    subst ho
    go_simp
    refine hK.out _ _ ?_ (fun hHeld => ?_)
    ·exact HS5.out _ (by repeat (first | exact Ext.refl _ | apply Ext.drew | apply Ext.alloc))
    clear hK K'
    try simp only [yA, yB, yC]
    refine wpAnyH_ready (rs := [13]) (by kernel_rfl) (by simp) ?_
    refine held_step (i := 13) (by kernel_rfl) (fun o ho K' hK => ?_) ?_
    ·simp only [zA, zB, zC, zD] at ho
     subst ho
     go_simp
     refine hK.out _ _ ?_ (fun hHeld => ?_)
     ·exact HS5.out _ (by repeat (first | exact Ext.refl _ | apply Ext.drew | apply Ext.alloc))
     clear hK K'
     try simp only [yA, yB, yC]
     refine wpAnyH_done (by kernel_rfl) ?_ _
     try simp only [yA, yB, yC]
     clear hHeld
     obtain ⟨wp, hwp⟩ : ∃ wp, wp = (wo.alloc (.cells #[.int .i64 R.vary, .int .i64 R.closed] 3)).drew := ⟨_, rfl⟩
     have hownp : wp.ownsRow wo.heap.size 3 1 (.slice (some ⟨wo.heap.size, 0, none⟩) 2 2) 2 [.int .i64 R.vary, .int .i64 R.closed] := by
      rw [hwp]
      exact owns_ext (owns_two (w := wo) (base := wo.heap.size) (e := 3) (.int .i64 R.vary) (.int .i64 R.closed) (Nat.le_refl _)) ((Ext.refl _).drew)
     have hxp : Ext wo wp := by rw [hwp]; exact ((Ext.refl wo).alloc _).drew
     rw [← hwp]
     clear hwp
     go_wp2
     go_loopw [5, 6] (fun nv i wq => ∃ j : Nat, j ≤ R.grow.length ∧ i = .int .i64 j ∧ wq.ownsRow wo.heap.size 3 1 nv (2 + j * 2) ((numsUp R j).map (.int .i64)) ∧ Ext wo wq) (fun _ i _ => R.grow.length - (intOf i).toNat)
     case atStart => exact ⟨0, Nat.zero_le _, rfl, hownp, hxp⟩
     case round =>
      clear hownp hxp
      obtain ⟨j, hj, rfl, hon, hxq⟩ := hrel
      obtain ⟨z0, z1⟩ := HC.out _ (HX.out.trans hxq)
      obtain ⟨e0, e1, e2⟩ := HD.out _ (HX.out.trans hxq)
      by_cases hjl : j < R.grow.length
      ·obtain ⟨gb, go, sp, rfl, hsp, c0, c1⟩ := HG.out j hjl
       have y2 : decide ((j : Int) < (R.grow.length : Int)) = true := by simpa using hjl
       have j1 : (0 : Int) ≤ (j : Int) := by omega
       have j2 : (j : Int) < (R.grow.length : Int) := by omega
       have q0 := (HXW.out.trans (HX.out.trans hxq)).cell c0
       have q1 := (HXW.out.trans (HX.out.trans hxq)).cell c1
       have HNU := Lib.hid (numsUp_succ hsp.out)
       have HON := Lib.hid hon
       have HXQ := Lib.hid hxq
       have hzq := hxq.size
       have HS2 := Lib.hid (show 2 + j * 2 + 2 ≤ maxLen ∧ (2 + j * 2 + 2) * 8 ≤ 140737488355328 by unfold maxLen; omega)
       obtain ⟨_, _, rfl, _⟩ := RowAt.open (RowAt.of_owns hon)
       have HCQ := Lib.hid (And.intro c0 c1)
       clear c0 c1 hon hxq
       have HS9 := Lib.hid (fun W (h : Ext wo W) => (⟨(HC.out _ (HX.out.trans h)).2, (HD.out _ (HX.out.trans h)).1, (HXW.out.trans (HX.out.trans h)).cell HCQ.out.1, (HXW.out.trans (HX.out.trans h)).cell HCQ.out.2⟩ : W.cell? ⟨w.heap.size, 1, none⟩ = some (.slice (some ⟨rb, ro, none⟩) b.rivers.length rc) ∧ W.cell? ⟨rb, ro + k * 3, none⟩ = some (.slice (some ⟨gb, go, none⟩) R.grow.length gc) ∧ W.cell? ⟨gb, go + j * 2, none⟩ = some (.int .i64 sp.1) ∧ W.cell? ⟨gb, go + j * 2 + 1, none⟩ = some (.int .i64 sp.2)))
       go_upto_region 9 with fail
       clear z0 z1 e0 e1 e2 q0 q1
       refine wp_region_held_drew (S := (fun W => W.cell? ⟨w.heap.size, 1, none⟩ = some (.slice (some ⟨rb, ro, none⟩) b.rivers.length rc) ∧ W.cell? ⟨rb, ro + k * 3, none⟩ = some (.slice (some ⟨gb, go, none⟩) R.grow.length gc) ∧ W.cell? ⟨gb, go + j * 2, none⟩ = some (.int .i64 sp.1) ∧ W.cell? ⟨gb, go + j * 2 + 1, none⟩ = some (.int .i64 sp.2))) (by kernel_rfl) ?_ (fun hHeld => ?_)
       ·first | exact HS9.out _ hx8o | exact HS9.out _ (HXQ.out.trans (by repeat (first | exact Ext.refl _ | apply Ext.drew | apply Ext.alloc)))
       refine hTk (i := 0) (d := some 50) (v := ?_) (fun o ho => ?_) hHeld ?_
       rotate_left
       ·simp only [zA, zB, zD] at ho
        subst ho
        refine ⟨by rfl, fun w hSw => ?_⟩
        (try dsimp only at hSw)
        go_simp
        try with_reducible rfl
       try simp only [Act.put, yA, yB, yC]
       refine hTk (i := 1) (d := some 51) (v := ?_) (fun o ho => ?_) hHeld ?_
       rotate_left
       ·simp only [zA, zB, zC, zD] at ho
        subst ho
        refine ⟨by rfl, fun w hSw => ?_⟩
        (try dsimp only at hSw)
        go_simp
        try with_reducible rfl
       try simp only [Act.put, yA, yB, yC]
       refine hTk (i := 2) (d := some 52) (v := ?_) (fun o ho => ?_) hHeld ?_
       rotate_left
       ·simp only [zA, zB, zC, zD] at ho
        subst ho
        refine ⟨by rfl, fun w hSw => ?_⟩
        (try dsimp only at hSw)
        go_simp
        try with_reducible rfl
       try simp only [Act.put, yA, yB, yC]
       refine hTk (i := 3) (d := some 53) (v := ?_) (fun o ho => ?_) hHeld ?_
       rotate_left
       ·simp only [zA, zB, zC, zD] at ho
        subst ho
        refine ⟨by rfl, fun w hSw => ?_⟩
        (try dsimp only at hSw)
        go_simp
        try with_reducible rfl
       try simp only [Act.put, yA, yB, yC]
       refine hTk (i := 4) (d := some 54) (v := ?_) (fun o ho => ?_) hHeld ?_
       rotate_left
       ·simp only [zA, zB, zC, zD] at ho
        subst ho
        refine ⟨by rfl, fun w hSw => ?_⟩
        (try dsimp only at hSw)
        go_simp
        try with_reducible rfl
       try simp only [Act.put, yA, yB, yC]
       refine hTk (i := 5) (d := some 55) (v := ?_) (fun o ho => ?_) hHeld ?_
       rotate_left
       ·simp only [zA, zB, zC, zD] at ho
        subst ho
        refine ⟨by rfl, fun w hSw => ?_⟩
        (try dsimp only at hSw)
        go_simp
        try with_reducible rfl
       try simp only [Act.put, yA, yB, yC]
       refine hTk (i := 6) (d := some 56) (v := ?_) (fun o ho => ?_) hHeld ?_
       rotate_left
       ·simp only [zA, zB, zC, zD] at ho
        subst ho
        refine ⟨by rfl, fun w hSw => ?_⟩
        (try dsimp only at hSw)
        go_simp
        try with_reducible rfl
       try simp only [Act.put, yA, yB, yC]
       refine hTk (i := 7) (d := some 57) (v := ?_) (fun o ho => ?_) hHeld ?_
       rotate_left
       ·simp only [zA, zB, zC, zD] at ho
        subst ho
        refine ⟨by rfl, fun w hSw => ?_⟩
        (try dsimp only at hSw)
        go_simp
        try with_reducible rfl
       try simp only [Act.put, yA, yB, yC]
       refine hTk (i := 8) (d := some 58) (v := ?_) (fun o ho => ?_) hHeld ?_
       rotate_left
       ·simp only [zA, zB, zC, zD] at ho
        subst ho
        refine ⟨by rfl, fun w hSw => ?_⟩
        (try dsimp only at hSw)
        go_simp
        try with_reducible rfl
       try simp only [Act.put, yA, yB, yC]
       refine hTk (i := 9) (d := some 59) (v := ?_) (fun o ho => ?_) hHeld ?_
       rotate_left
       ·simp only [zA, zB, zC, zD] at ho
        subst ho
        refine ⟨by rfl, fun w hSw => ?_⟩
        (try dsimp only at hSw)
        go_simp
        try with_reducible rfl
       try simp only [Act.put, yA, yB, yC]
       refine hTk (i := 10) (d := some 60) (v := ?_) (fun o ho => ?_) hHeld ?_
       rotate_left
       ·simp only [zA, zB, zC, zD] at ho
        subst ho
        refine ⟨by rfl, fun w hSw => ?_⟩
        (try dsimp only at hSw)
        go_simp
        try with_reducible rfl
       try simp only [Act.put, yA, yB, yC]
       refine hTk (i := 11) (d := some 61) (v := ?_) (fun o ho => ?_) hHeld ?_
       rotate_left
       ·simp only [zA, zB, zC, zD] at ho
        subst ho
        refine ⟨by rfl, fun w hSw => ?_⟩
        (try dsimp only at hSw)
        go_simp
        try with_reducible rfl
       try simp only [Act.put, yA, yB, yC]
       refine hTk (i := 12) (d := some 62) (v := ?_) (fun o ho => ?_) hHeld ?_
       rotate_left
       ·simp only [zA, zB, zC, zD] at ho
        subst ho
        refine ⟨by rfl, fun w hSw => ?_⟩
        (try dsimp only at hSw)
        go_simp
        try with_reducible rfl
       try simp only [Act.put, yA, yB, yC]
       refine hTk (i := 13) (d := some 63) (v := ?_) (fun o ho => ?_) hHeld ?_
       rotate_left
       ·simp only [zA, zB, zC, zD] at ho
        subst ho
        refine ⟨by rfl, fun w hSw => ?_⟩
        (try dsimp only at hSw)
        go_simp
        try with_reducible rfl
       try simp only [Act.put, yA, yB, yC]
       refine hTk (i := 14) (d := some 64) (v := ?_) (fun o ho => ?_) hHeld ?_
       rotate_left
       ·simp only [zA, zB, zC, zD] at ho
        subst ho
        refine ⟨by rfl, fun w hSw => ?_⟩
        (try dsimp only at hSw)
        go_simp
        try with_reducible rfl
       try simp only [Act.put, yA, yB, yC]
       refine hTk (i := 15) (d := some 65) (v := ?_) (fun o ho => ?_) hHeld ?_
       rotate_left
       ·simp only [zA, zB, zC, zD] at ho
        subst ho
        refine ⟨by rfl, fun w hSw => ?_⟩
        (try dsimp only at hSw)
        go_simp
        try with_reducible rfl
       try simp only [Act.put, yA, yB, yC]
       refine hTk (i := 16) (d := some 66) (v := ?_) (fun o ho => ?_) hHeld ?_
       rotate_left
       ·simp only [zA, zB, zC, zD] at ho
        subst ho
        refine ⟨by rfl, fun w hSw => ?_⟩
        (try dsimp only at hSw)
        go_simp
        try with_reducible rfl
       try simp only [Act.put, yA, yB, yC]
       refine hTk (i := 17) (d := some 67) (v := ?_) (fun o ho => ?_) hHeld ?_
       rotate_left
       ·simp only [zA, zB, zC, zD] at ho
        subst ho
        refine ⟨by rfl, fun w hSw => ?_⟩
        (try dsimp only at hSw)
        go_simp
        try with_reducible rfl
       try simp only [Act.put, yA, yB, yC]
       refine hTk (i := 18) (d := some 68) (v := ?_) (fun o ho => ?_) hHeld ?_
       rotate_left
       ·simp only [zA, zB, zC, zD] at ho
        subst ho
        refine ⟨by rfl, fun w hSw => ?_⟩
        (try dsimp only at hSw)
        go_simp
        try with_reducible rfl
       try simp only [Act.put, yA, yB, yC]
       refine hTk (i := 19) (d := some 69) (v := ?_) (fun o ho => ?_) hHeld ?_
       rotate_left
       ·simp only [zA, zB, zC, zD] at ho
        subst ho
        refine ⟨by rfl, fun w hSw => ?_⟩
        (try dsimp only at hSw)
        go_simp
        try with_reducible rfl
       try simp only [Act.put, yA, yB, yC]
       refine hTk (i := 20) (d := some 70) (v := ?_) (fun o ho => ?_) hHeld ?_
       rotate_left
       ·simp only [zA, zB, zC, zD] at ho
        subst ho
        refine ⟨by rfl, fun w hSw => ?_⟩
        (try dsimp only at hSw)
        go_simp
        try with_reducible rfl
       try simp only [Act.put, yA, yB, yC]
       refine wpAnyH_ready (rs := [21]) (by kernel_rfl) (by simp) ?_
       refine held_step (i := 21) (by kernel_rfl) (fun o ho K' hK => ?_) ?_
       ·simp only [zA, zB, zC, zD] at ho
        subst ho
        go_simp
        refine hK.out _ _ ?_ (fun hHeld => ?_)
        ·first | exact HS9.out _ hx8o | exact HS9.out _ (HXQ.out.trans (by repeat (first | exact Ext.refl _ | apply Ext.drew | apply Ext.alloc)))
        clear hK K'
        try simp only [yA, yB, yC]
        refine wpAnyH_ready (rs := [22]) (by kernel_rfl) (by simp) ?_
        refine held_step (i := 22) (by kernel_rfl) (fun o ho K' hK => ?_) ?_
        ·simp only [zA, zB, zC, zD] at ho
         subst ho
         refine step_append_row E_ints (by rfl) _ _ (by rfl) wo.heap.size (by rfl) (owns_ext HON.out (by repeat (first | exact Ext.refl _ | apply Ext.drew | apply Ext.alloc))) (by rfl) (show RowAt _ _ 2 [.int .i64 sp.1, .int .i64 sp.2] from two_ints _ _ sp.1 sp.2 (by go_simp) (by go_simp)) (by rfl) (fun u hu => by simp at hu; rcases hu with rfl | rfl <;> rfl) HS2.out.1 HS2.out.2 (by simp; omega) ?_
         intro v8 w8 hown8 hgr8 _
         have hx8o : Ext wo w8 := (HXQ.out.trans ((Ext.refl wr).drew.alloc _)).grown hgr8 (fun g hg => by have := owns_block HON.out g hg; omega)
         have hs8 := HS9.out w8 hx8o
         refine hK.out _ _ ?_ (fun hHeld => ?_)
         ·first | exact HS9.out _ hx8o | exact HS9.out _ (HXQ.out.trans (by repeat (first | exact Ext.refl _ | apply Ext.drew | apply Ext.alloc)))
         clear hK K'
         refine wpAnyH_ready (rs := [23]) (by kernel_rfl) (by simp) ?_
         refine held_step (i := 23) (by kernel_rfl) (fun o ho K' hK => ?_) ?_
         ·simp only [zA, zB, zC, zD] at ho
          subst ho
          go_simp
          refine hK.out _ _ ?_ (fun hHeld => ?_)
          ·first | exact HS9.out _ hx8o | exact HS9.out _ (HXQ.out.trans (by repeat (first | exact Ext.refl _ | apply Ext.drew | apply Ext.alloc)))
          clear hK K'
          try simp only [yA, yB, yC]
          refine wpAnyH_done (by kernel_rfl) ?_ _
          try simp only [yA, yB, yC]
          clear hHeld
          go_wp2
          refine ⟨⟨j + 1, by omega, by go_num, ?_, hx8o⟩, by simp [intOf]; omega⟩
          rw [HNU.out, List.map_append, show 2 + (j + 1) * 2 = 2 + j * 2 + 2 by omega]
          exact hown8
         exact AllReadyH.nil
        exact AllReadyH.nil
       exact AllReadyH.nil
      ·have y2 : decide ((j : Int) < (R.grow.length : Int)) = false := by simpa using hjl
       have hje : j = R.grow.length := by omega
       subst hje
       have hin : IntsAt wr u5 R.nums := by
        have h := RowAt.of_owns hon
        rw [show 2 + R.grow.length * 2 = R.nums.length by have := HNL.out; omega, numsUp_end] at h
        exact h
       have HLL := Lib.hid (HLN.out u5 wr hin)
       have HXQ := Lib.hid hxq
       obtain ⟨_, _, rfl, _⟩ := hin.open
       clear hon hin hxq
       go_wp2_with (first
        | (go_at_call 65; refine HLL.out.mono ?_; rintro e w4 ⟨rfl, hx4⟩; have hx14 : Ext wo w4 := HXQ.out.trans hx4; have hbz : w.heap.size + 1 ≤ w4.heap.size := by have := hx14.size; omega)
        | (at_builtin; refine wpList_push_at E_strs rfl _ _ rfl (w.heap.size + 1) rfl (owns_ext HOWN.out hx14) rfl rfl rfl (by simp [Value.oneCell']) ?_ HSZ.out.1 HSZ.out.2 hbz; intro g cap w5 hown5 hext5 hg5 hloc5))
       refine ⟨⟨k + 1, by omega, by go_num, ?_, ?_, by have := hg5.size; simp at this; omega⟩, by simp [intOf]; omega⟩
       ·rw [HUP.out, List.map_append]
        exact hown5
       ·exact hext5 _ (HX.out.trans hx14) (by have := HXZ.out; omega)
    exact AllReadyH.nil
   exact AllReadyH.nil
  ·have hke : k = b.rivers.length := by omega
   subst hke
   have x0 : decide ((b.rivers.length : Int) < (b.rivers.length : Int)) = false := by simp
   have hlen : (linesT b).length = b.rivers.length + 1 := by simp [linesT]
   rw [linesUp_end, ← hlen] at hown
   obtain ⟨w5, hw5⟩ : ∃ w5 : World, w5 = wo := ⟨_, rfl⟩
   rw [← hw5] at hown hx hzr z0 z1 ⊢
   clear hw5
   have hSt : StrsAt w5 u3 (linesT b) := RowAt.of_owns hown
   have hbd := fun (i : Nat) (hi : i ≤ 600) => linesSum_bd HBB.out.short hi
   have hsh := HBB.out.short
   have hne : linesT b ≠ [] := by unfold linesT; simp
   have HTX := Lib.hid (text_down b)
   generalize linesT b = L at *
   obtain ⟨hol, ⟨-, h0⟩ | ⟨g, cap, cur, rfl, -⟩⟩ := hown
   ·omega
   have hcell : ∀ (i : Nat) (l : List UInt8), L[i]? = some l → w5.cell? ⟨g, i, none⟩ = some (strV l) := fun i l hi => strs_cell hSt hi
   have HBD := Lib.hid hbd
   have HSH := Lib.hid hsh
   have HLN := Lib.hid hlen
   have HCE := Lib.hid hcell
   have hL503 : L.length ≤ 503 := by omega
   have HDL : Hid (∀ i, (downL (L.take i)).length ≤ 301 * 503) := fun i => by
    have h1 := down_len (L := L.take i) (fun l hl => hsh l (List.mem_of_mem_take hl))
    have h2 : (L.take i).length ≤ 503 := by rw [List.length_take]; omega
    omega
   have hxw5 := HXW.out.trans hx
   clear hSt hbd hsh hlen hne hcell hol hx
   go_wp2
   go_loopw [7, 8, 9] (fun sv cv iv wr => ∃ i : Nat, i ≤ L.length ∧ iv = .int .i64 i ∧ cv = .int .i64 (linesSum L i) ∧ sv = strV (downL (L.take i)) ∧ wr = w5) (fun _ _ iv _ => L.length - (intOf iv).toNat)
   case atStart => exact ⟨0, Nat.zero_le _, rfl, rfl, by simp [downL], rfl⟩
   case round =>
    obtain ⟨i, hi, rfl, rfl, rfl, rfl⟩ := hrel
    have hbi := HBD.out i (by omega)
    by_cases hli : i < L.length
    ·obtain ⟨l, hl⟩ : ∃ l, Hid (L[i]? = some l) := ⟨_, List.getElem?_eq_getElem hli⟩
     have hc := HCE.out i l hl.out
     have hll := HSH.out l (List.mem_of_getElem? hl.out)
     have hgd : L.getD i [] = l := by rw [List.getD_eq_getElem?_getD, hl.out]; rfl
     have HGD := Lib.hid (show linesSum L (i + 1) = linesSum L i + lineSum i l l.length by rw [linesSum, hgd])
     have HDS := Lib.hid (downL_succ hl.out)
     have HRS := Lib.hid (rdown_str (downL (L.take i)) l)
     have hdl := HDL.out i
     have g1 : ¬ 9223372036854775807 < (downL (L.take i)).length + l.length := by omega
     have g2 : ¬ 9223372036854775807 < (downL (L.take i)).length + l.length + 1 := by omega
     have x2 : decide ((i : Int) < (L.length : Int)) = true := by simpa using hli
     have x3 : (i : Int) < (L.length : Int) := by omega
     have x5 : (0 : Int) ≤ (i : Int) := by omega
     obtain ⟨hb1, hb2⟩ := hbi
     have hb3 : linesSum L i ≤ 503 * 13838926500 := by
      have : (i : Int) * 13838926500 ≤ 503 * 13838926500 := Int.mul_le_mul_of_nonneg_right (by omega) (by omega)
      omega
     clear hgd hb2
     generalize downL (L.take i) = J at *
     obtain ⟨wL, hwL⟩ : ∃ wL : World, wL = wr := ⟨_, rfl⟩
     subst hwL
     go_wp2
     go_loopw [8, 10] (fun cv kv wr => ∃ k : Nat, k ≤ l.length ∧ kv = .int .i64 k ∧ cv = .int .i64 (linesSum L i + lineSum i l k) ∧ wr = wL) (fun _ kv _ => l.length - (intOf kv).toNat)
     case atStart => exact ⟨0, Nat.zero_le _, rfl, by simp [lineSum], rfl⟩
     case round =>
      obtain ⟨k, hk, rfl, rfl, rfl⟩ := hrel
      by_cases hlk : k < l.length
      ·have hby : l.getD k 0 = l[k] := by rw [List.getD_eq_getElem?_getD, List.getElem?_eq_getElem hlk]; rfl
       have hs := lineSum_bd (i := i) (l := l) (by omega) (k := k) (by omega)
       have ht := term_bd (l[k]) (k := k) (i := i) (by omega) (by omega)
       obtain ⟨⟨t1, t2⟩, t3, t4⟩ := ht
       have hs2 : lineSum i l k ≤ 300 * 46129755 := by
        have : (k : Int) * 46129755 ≤ 300 * 46129755 := Int.mul_le_mul_of_nonneg_right (by omega) (by omega)
        omega
       obtain ⟨hs1, _⟩ := hs
       have HSU := Lib.hid (show lineSum i l (k + 1) = lineSum i l k + ((l[k]).toNat : Int) * ((k : Int) + 1) * ((i : Int) + 1) by rw [lineSum, hby])
       have x6 : decide ((k : Int) < (l.length : Int)) = true := by simpa using hlk
       clear hby
       go_wp2
       go_roundw
       case rel =>
        refine ⟨k + 1, by omega, by go_num, ?_, trivial⟩
        rw [HSU.out]
        exact congrArg (Value.int IntKind.i64) (wrap_term t1 t2 t3 t4 (by omega) (byte_le _) hb1 (by omega) hs1 (by omega))
       case measure => simp [intOf]; omega
      ·have hke : k = l.length := by omega
       subst hke
       have x6 : decide ((l.length : Int) < (l.length : Int)) = false := by simp
       go_wp2
       exact ⟨⟨i + 1, by omega, by go_num, by rw [HGD.out], by rw [HDS.out]; exact HRS.out, trivial⟩, by simp [intOf]; omega⟩
    ·have hie : i = L.length := by omega
     subst hie
     have x2 : decide ((L.length : Int) < (L.length : Int)) = false := by simp
     obtain ⟨hb1, hb2⟩ := hbi
     have hck : ∃ ck, checkT L = ck ∧ 0 ≤ ck ∧ ck ≤ 130 := ⟨_, rfl, by unfold checkT; omega, by unfold checkT; omega⟩
     obtain ⟨ck, hck, hc0, hc1⟩ := hck
     have HCK := Lib.hid hck
     have hsum : linesSum L L.length % 131 = ck := hck
     have hdl := HDL.out L.length
     have HTL : Hid (L.take L.length = L) := List.take_of_length_le (Nat.le_refl _)
     have HIT := Lib.hid (fun y (h0 : 0 ≤ y) (h1 : y ≤ 1000) w1 => rdecI_any y w1 h0 (by omega))
     have hl1 := Lib.itoa_length_le (ck / 100) (by omega) (by omega)
     have hl2 := Lib.itoa_length_le (ck / 10 % 10) (by omega) (by omega)
     have hl3 := Lib.itoa_length_le (ck % 10) (by omega) (by omega)
     clear hck
     rw [HTL.out] at hdl
     rw [HTL.out]
     have g4 : ¬ 9223372036854775807 < (downL L).length + 4 := by omega
     have g5 : ¬ 9223372036854775807 < (downL L).length + 4 + (Lib.itoa (ck / 100)).length := by omega
     have g6 : ¬ 9223372036854775807 < (downL L).length + 4 + (Lib.itoa (ck / 100)).length + (Lib.itoa (ck / 10 % 10)).length := by omega
     have g7 : ¬ 9223372036854775807 < (downL L).length + 4 + (Lib.itoa (ck / 100)).length + (Lib.itoa (ck / 10 % 10)).length + (Lib.itoa (ck % 10)).length := by omega
     have g8 : ¬ 9223372036854775807 < (downL L).length + 4 + (Lib.itoa (ck / 100)).length + (Lib.itoa (ck / 10 % 10)).length + (Lib.itoa (ck % 10)).length + 1 := by omega
     have tok1 : True := trivial
     have tok2 : True := trivial
     go_wp2_with (first
      | (go_at_call 66; have _t := tok1; refine (HIT.out (ck / 100) (by omega) (by omega) _).mono ?_; rintro e w7 ⟨rfl, hx7⟩; clear tok1 _t)
      | (go_at_call 66; have _t := tok2; refine (HIT.out (ck / 10 % 10) (by omega) (by omega) _).mono ?_; rintro e w8 ⟨rfl, hx8⟩; clear tok2 _t)
      | (go_at_call 66; refine (HIT.out (ck % 10) (by omega) (by omega) _).mono ?_; rintro e w9 ⟨rfl, hx9⟩))
     go_ret
     refine ⟨?_, ((hxw5.trans hx7).trans hx8).trans hx9⟩
     rw [HTX.out, HCK.out]
     exact congrArg Ending.returned (rend_str _ _ _ _)
end Go.Proofs.YtdmdabhdcpjkiaaGreatDoor
