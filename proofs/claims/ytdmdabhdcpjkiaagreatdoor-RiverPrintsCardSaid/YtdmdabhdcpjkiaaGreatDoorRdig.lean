/- The reference's Decimal, line, number. -/
import Derived.Test.YtdmdabhdcpjkiaaGreatDoorRprintp
import Derived.Test.YtdmdabhdcpjkiaaGreatDoorTextr
import Derived.Laws.IdiomStrings
namespace Go.Proofs.YtdmdabhdcpjkiaaGreatDoor
open Go.RowKit
theorem str_app (a b : List UInt8) : (({ data := a.toArray } : ByteArray) ++ ({ data := b.toArray } : ByteArray)) = { data := (a ++ b).toArray } := by
 apply ByteArray.ext; simp
theorem str_step3 (a b : List UInt8) : Value.string ((({ data := a.toArray } : ByteArray) ++ ({ data := #[32] } : ByteArray)) ++ ({ data := b.toArray } : ByteArray)) = strV (a ++ (32 :: b)) := by
 rw [show (({ data := #[32] } : ByteArray)) = { data := ([32] : List UInt8).toArray } from rfl, str_app, str_app, List.append_assoc]; rfl
/-- A byte alone, as a string. -/
theorem conv_one (w : World) (x : Int) (b : UInt8) (hb : (b.toNat : Int) = x) : (convert 69 9 (.slice (some ⟨w.heap.size, 0, none⟩) 1 1)).run Tryz.prog (w.alloc (.cells #[.int .u8 x] 5)) = .ok (strV [b]) (w.alloc (.cells #[.int .u8 x] 5)) := by
 refine run_convert_bytes_back (P := Tryz.prog) _ 69 9 5 ⟨w.heap.size, 0, none⟩ 1 [b] (by kernel_rfl) (by kernel_rfl) Tryz.underlying9 (fun j hj => ?_)
 have : j = 0 := by simpa using hj
 subst this
 subst hb
 have h := World.alloc_heap_new w (.cells #[.int .u8 (b.toNat : Int)] 5)
 show World.cell? _ (⟨w.heap.size, 0, none⟩ : Addr) = _
 unfold World.cell?
 simp only [h]
 rfl
set_option maxRecDepth 100000 in
set_option maxHeartbeats 4000000 in
theorem rdec_any (n : Nat) (w : World) (hn : n ≤ 1000000000000) : Calls Tryz.prog 66 #[.int .i64 (n : Int)] w fun e w' => e = .returned (strV (Lib.itoa (n : Int))) ∧ Ext w w' := by
 have hmix : Tryz.prog.follows .mixedOrders = true := by kernel_rfl
 have hL := Lib.itoa_length_le (n : Int) (by omega) (by omega)
 have hI : Lib.itoa (n : Int) = decHead n ++ [digitB n] := by rw [Lib.itoa_nonneg]; exact dec_last n
 have t0 : decide ((n : Int) < 0) = false := by simp
 have E1 : IntKind.i64.wrap (48 + (n : Int) % 10) = 48 + (n : Int) % 10 := IntWalk.i64_in _ (by omega)
 have E2 : IntKind.u8.wrap (48 + (n : Int) % 10) = 48 + (n : Int) % 10 := by rw [IntKind.wrap_u8]; omega
 have C1 := fun w => conv_one w (48 + (n : Int) % 10) (digitB n) (by rw [digitB_nat]; omega)
 have HI := Lib.hid hI
 go_enter Tryz.func66, Tryz.ntmps66
 go_wp2
 go_loopw [0, 3] (fun nv sv wr => ∃ (m : Nat) (q : List UInt8), m ≤ n ∧ nv = .int .i64 (m : Int) ∧ sv = strV q ∧ Hid (Lib.itoa (n : Int) = decHead m ++ q) ∧ q.length ≤ 21 ∧ Ext w wr) (fun nv _ _ => (intOf nv).toNat)
 case atStart => exact ⟨n, [digitB n], Nat.le_refl _, rfl, rfl, HI.out, by simp, (Ext.refl w).alloc _⟩
 case round =>
  obtain ⟨m, q, hm, rfl, rfl, hq, hql, hx⟩ := hrel
  by_cases h10 : m < 10
  ·have x1 : decide (10 ≤ (m : Int)) = false := by simp; omega
   have x2 : decide (10 ≤ m) = false := by simp; omega
   have HE : Hid (Lib.itoa (n : Int) = q) := by unfold Hid; rw [hq.out, dec_end h10]
   go_wp2
   go_ret
   exact ⟨by rw [HE.out]; rfl, hx⟩
  ·have x1 : decide (10 ≤ (m : Int)) = true := by simp; omega
   have x2 : decide (10 ≤ m) = true := by simp; omega
   obtain ⟨m', hm'⟩ : ∃ m', m / 10 = m' := ⟨_, rfl⟩
   have HQ : Hid (Lib.itoa (n : Int) = decHead m' ++ (digitB m' :: q)) := by unfold Hid; rw [hq.out, dec_step h10, hm']
   have hl2 : (digitB m' :: q).length ≤ 21 := by
    have h1 := congrArg List.length HQ.out
    rw [List.length_append] at h1
    omega
   have hl3 : ¬ 9223372036854775807 < 1 + q.length := by omega
   have e0 : (m : Int) / 10 = (m' : Int) := by omega
   have hmm : m' ≤ n ∧ m' < m := by omega
   have HMM := Lib.hid hmm
   have C2 := fun w => conv_one w (48 + (m' : Int) % 10) (digitB m') (by rw [digitB_nat]; omega)
   have E3 : IntKind.i64.wrap (48 + (m' : Int) % 10) = 48 + (m' : Int) % 10 := IntWalk.i64_in _ (by omega)
   have E4 : IntKind.u8.wrap (48 + (m' : Int) % 10) = 48 + (m' : Int) % 10 := by rw [IntKind.wrap_u8]; omega
   have HST : ∀ a b : List UInt8, Value.string (({ data := a.toArray } : ByteArray) ++ ({ data := b.toArray } : ByteArray)) = strV (a ++ b) := fun a b => by rw [str_app]
   have HST := Lib.hid HST
   clear hm' hmm
   go_wp2
   refine ⟨⟨m', digitB m' :: q, HMM.out.1, rfl, HST.out [digitB m'] q, HQ.out, hl2, hx.alloc _⟩, ?_⟩
   have := HMM.out.2
   simp [intOf]; omega
theorem rdecI_any (y : Int) (w : World) (h0 : 0 ≤ y) (h1 : y ≤ 1000000000000) : Calls Tryz.prog 66 #[.int .i64 y] w fun e w' => e = .returned (strV (Lib.itoa y)) ∧ Ext w w' := by
 obtain ⟨n, rfl⟩ := Int.eq_ofNat_of_zero_le h0
 exact rdec_any n w (by omega)
set_option maxRecDepth 100000 in
set_option maxHeartbeats 4000000 in
theorem rline_any (word : List UInt8) (v : Value) (ns : List Int) (w : World) (hv : IntsAt w v ns) (hb : ∀ y, y ∈ ns → 0 ≤ y ∧ y ≤ 2000000) (hn : ns.length ≤ 302) (hw : word.length ≤ 10) :
  Calls Tryz.prog 65 #[strV word, v] w fun e w' => e = .returned (strV (lineT word ns)) ∧ Ext w w' := by
 have hmix : Tryz.prog.follows .mixedOrders = true := by kernel_rfl
 obtain ⟨a, c, rfl, h1, h2, h3⟩ := hv.open
 have H3 := Lib.hid h3
 have HB := Lib.hid hb
 clear hv h3 hb
 go_enter Tryz.func65, Tryz.ntmps65
 go_wp2
 go_loopw [5, 6] (fun sv i wr => ∃ k : Nat, k ≤ ns.length ∧ i = .int .i64 k ∧ sv = strV (lineT word (ns.take k)) ∧ Ext w wr) (fun _ i _ => ns.length - (intOf i).toNat)
 case atStart => exact ⟨0, Nat.zero_le _, rfl, by simp [lineT, numsT], Ext.refl _⟩
 case round =>
  obtain ⟨k, hk, rfl, rfl, hx⟩ := hrel
  by_cases hlt : k < ns.length
  ·obtain ⟨b, o, y, rfl, hy, hc⟩ := H3.out k hlt
   obtain ⟨y0, y1⟩ := HB.out y (List.mem_of_getElem? hy.out)
   have hc' := hx.cell hc
   have x2 : decide ((k : Int) < (ns.length : Int)) = true := by simpa using hlt
   have hl1 : (lineT word (ns.take k)).length ≤ 7000 := by
    have := lineT_len (word := word) (ns := ns.take k) (fun y hy => HB.out y (List.mem_of_mem_take hy))
    have h2 : (ns.take k).length ≤ 302 := by rw [List.length_take]; omega
    omega
   have hl2 := Lib.itoa_length_le y (by omega) (by omega)
   have hd1 : ¬ 9223372036854775807 < (lineT word (ns.take k)).length + 1 := by omega
   have hd2 : ¬ 9223372036854775807 < (lineT word (ns.take k)).length + 1 + (Lib.itoa y).length := by omega
   have HST := Lib.hid (lineT_step word hy.out)
   have HD := Lib.hid (fun w1 => rdecI_any y w1 y0 (by omega))
   clear hc hl1 hl2 y0 y1
   go_wp2_with (go_at_call 66; refine (HD.out _).mono ?_; rintro e w3 ⟨rfl, hx3⟩)
   exact ⟨⟨k + 1, by omega, by go_num, by rw [HST.out]; exact str_step3 _ _, hx.trans hx3⟩, by simp [intOf]; omega⟩
  ·have hke : k = ns.length := by omega
   subst hke
   have x2 : decide ((ns.length : Int) < (ns.length : Int)) = false := by simp
   have HT : Hid (ns.take ns.length = ns) := List.take_of_length_le (Nat.le_refl _)
   go_wp2
   go_ret
   exact ⟨by rw [HT.out]; rfl, hx⟩
/-- What the reference's number answers. -/
def numR (s : List UInt8) : Int := if numOk s = true then valT s else -1
set_option maxRecDepth 100000 in
set_option maxHeartbeats 8000000 in
theorem rnumber_any (s : List UInt8) (w : World) : Calls Tryz.prog 117 #[strV s] w fun e w' => e = .returned (.int .i64 (numR s)) ∧ Ext w w' := by
 have hmix : Tryz.prog.follows .mixedOrders = true := by kernel_rfl
 have hsz := size_str s
 by_cases he : s = []
 ·have HF : Hid (numR s = -1) := by unfold Hid numR; rw [if_neg]; subst he; decide
  have t1 : decide ((s.length : Int) = 0) = true := by subst he; rfl
  have t2 : ((s.length : Int) == 0) = true := by subst he; rfl
  have t3 : (s.length == 0) = true := by subst he; rfl
  have t4 : s.isEmpty = true := by subst he; rfl
  clear he
  go_enter Tryz.func117, Tryz.ntmps117
  go_wp2
  go_ret
  exact ⟨by rw [HF.out]; rfl, Ext.refl _⟩
 ·have hl0 : 0 < s.length := List.length_pos_iff.2 he
  have t2 : ((s.length : Int) == 0) = false := by rw [beq_eq_false_iff_ne]; omega
  have t3 : (s.length == 0) = false := by rw [beq_eq_false_iff_ne]; omega
  have t4 : s.isEmpty = false := by simpa using he
  by_cases h6 : 3 < s.length
  ·have HF : Hid (numR s = -1) := by unfold Hid numR; rw [if_neg]; intro h; have := (num_ok h).2.2.2.2.1; omega
   have u1 : decide (3 < (s.length : Int)) = true := by simp; omega
   have u2 : decide (3 < s.length) = true := by simpa using h6
   go_enter Tryz.func117, Tryz.ntmps117
   go_wp2
   go_ret
   exact ⟨by rw [HF.out]; rfl, Ext.refl _⟩
  ·have u1 : decide (3 < (s.length : Int)) = false := by simp; omega
   have u2 : decide (3 < s.length) = false := by simpa using h6
   have HNE := Lib.hid he
   clear he hl0
   go_enter Tryz.func117, Tryz.ntmps117
   go_wp2
   go_loopw [3, 4] (fun nv iv wr => ∃ k : Nat, k ≤ s.length ∧ iv = .int .i64 k ∧ nv = .int .i64 (valT (s.take k)) ∧ Hid ((s.take k).all digB = true) ∧ wr = w) (fun _ iv _ => s.length - (intOf iv).toNat)
   case atStart => exact ⟨0, Nat.zero_le _, rfl, rfl, by simp [Hid], rfl⟩
   case round =>
    obtain ⟨k, hk, rfl, rfl, hal, rfl⟩ := hrel
    have hbd := val_bd hal.out k
    rw [List.take_take, Nat.min_self] at hbd
    have hpl : (s.take k).length ≤ 3 := by rw [List.length_take]; omega
    have hpw := pow10_le hpl
    obtain ⟨c0, c1⟩ := hbd
    have c2 : valT (s.take k) ≤ 1000 := by omega
    clear hpl hpw c1
    by_cases hlt : k < s.length
    ·obtain ⟨b, hb⟩ : ∃ b, Hid (s[k]? = some b) := ⟨_, List.getElem?_eq_getElem hlt⟩
     have hat := str_at hb.out (by rw [hsz]; exact hlt)
     have x1 : decide ((k : Int) < (s.length : Int)) = true := by simpa using hlt
     have hb9 : b.toNat < 256 := b.toNat_lt
     by_cases g1 : b.toNat < 48
     ·have HF : Hid (numR s = -1) := by
       unfold Hid numR; rw [if_neg]; intro h
       have h9 := (num_ok h).2.2.2.2.2
       rw [List.all_eq_true] at h9
       have := h9 b (List.mem_of_getElem? hb.out)
       simp only [digB, Bool.and_eq_true, decide_eq_true_eq] at this; omega
      have d1 : decide ((b.toNat : Int) < 48) = true := by simp; omega
      have d2 : decide (b.toNat < 48) = true := by simpa using g1
      go_wp2
      go_ret
      exact ⟨by rw [HF.out]; rfl, Ext.refl _⟩
     ·have d1 : decide ((b.toNat : Int) < 48) = false := by simp; omega
      have d2 : decide (b.toNat < 48) = false := by simpa using g1
      by_cases g2 : 57 < b.toNat
      ·have HF : Hid (numR s = -1) := by
        unfold Hid numR; rw [if_neg]; intro h
        have h9 := (num_ok h).2.2.2.2.2
        rw [List.all_eq_true] at h9
        have := h9 b (List.mem_of_getElem? hb.out)
        simp only [digB, Bool.and_eq_true, decide_eq_true_eq] at this; omega
       have d3 : decide (57 < (b.toNat : Int)) = true := by simp; omega
       have d4 : decide (57 < b.toNat) = true := by simpa using g2
       go_wp2
       go_ret
       exact ⟨by rw [HF.out]; rfl, Ext.refl _⟩
      ·have d3 : decide (57 < (b.toNat : Int)) = false := by simp; omega
       have d4 : decide (57 < b.toNat) = false := by simpa using g2
       have HVS : Hid (valT (s.take (k + 1)) = 10 * valT (s.take k) + ((b.toNat : Int) - 48)) := by unfold Hid; rw [List.take_add_one, hb.out, Option.toList_some, valT_snoc]
       have HAL : Hid ((s.take (k + 1)).all digB = true) := by
        unfold Hid; rw [List.take_add_one, hb.out, Option.toList_some, List.all_append, hal.out]
        simp only [List.all_cons, List.all_nil, Bool.and_true, Bool.true_and, digB, Bool.and_eq_true, decide_eq_true_eq]; omega
       generalize valT (s.take k) = v at *
       have E1 : IntKind.i64.wrap (10 * v) = 10 * v := IntWalk.i64_in _ (by omega)
       have E2 : IntKind.u8.wrap ((b.toNat : Int) - 48) = (b.toNat : Int) - 48 := by rw [IntKind.wrap_u8]; omega
       have E4 : IntKind.i64.wrap ((b.toNat : Int) - 48) = (b.toNat : Int) - 48 := IntWalk.i64_in _ (by omega)
       have E3 : IntKind.i64.wrap (10 * v + ((b.toNat : Int) - 48)) = 10 * v + ((b.toNat : Int) - 48) := IntWalk.i64_in _ (by omega)
       go_wp2
       exact ⟨⟨k + 1, by omega, by go_num, by rw [HVS.out], HAL.out, trivial⟩, by simp [intOf]; omega⟩
    ·have hke : k = s.length := by omega
     subst hke
     have HTS : Hid (s.take s.length = s) := List.take_of_length_le (Nat.le_refl _)
     rw [HTS.out] at hal c0 c2 ⊢
     have x1 : decide ((s.length : Int) < (s.length : Int)) = false := by simp
     have HD := Lib.hid (fun w1 => rdecI_any (valT s) w1 c0 (by omega))
     by_cases hq : Lib.itoa (valT s) = s
     ·have HF : Hid (numR s = valT s) := by
       unfold Hid numR; rw [if_pos]
       unfold numOk
       rw [hal.out, decide_eq_true hq, decide_eq_true HNE.out, decide_eq_true (show s.length ≤ 3 by omega)]; rfl
      rw [hq] at HD
      clear hq
      go_wp2_with (go_at_call 66; refine (HD.out _).mono ?_; rintro e w1 ⟨rfl, hx1⟩)
      go_ret
      exact ⟨by rw [HF.out]; rfl, hx1⟩
     ·have HF : Hid (numR s = -1) := by
       unfold Hid numR; rw [if_neg]; intro h; exact hq (num_ok h).2.2.1
      have q1 : decide (Lib.itoa (valT s) = s) = false := by simpa using hq
      have q2 : (Lib.itoa (valT s) == s) = false := by simpa using hq
      have q3 : (Lib.itoa (valT s) != s) = true := by simpa using hq
      clear hq
      generalize Lib.itoa (valT s) = q at *
      go_wp2_with (go_at_call 66; refine (HD.out _).mono ?_; rintro e w1 ⟨rfl, hx1⟩)
      go_ret
      exact ⟨by rw [HF.out]; rfl, hx1⟩
end Go.Proofs.YtdmdabhdcpjkiaaGreatDoor
