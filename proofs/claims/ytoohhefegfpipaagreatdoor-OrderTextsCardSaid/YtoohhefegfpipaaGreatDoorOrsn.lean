/- The reference's split and number. -/
import Derived.Test.YtoohhefegfpipaaGreatDoorRpt
import Derived.Test.YtoohhefegfpipaaGreatDoorOrdp
namespace Go.Proofs.YtoohhefegfpipaaGreatDoor
open Go.RowKit
theorem sub_str (s : List UInt8) (f i : Nat) : Value.string (({ data := s.toArray } : ByteArray).extract f i) = strV ((s.take i).drop f) := by
 congr 1
 apply ByteArray.ext
 rw [ByteArray.data_extract, List.extract_toArray, List.extract_eq_take_drop, List.drop_take]
set_option maxRecDepth 100000 in
set_option maxHeartbeats 8000000 in
theorem rsplit_any (s : List UInt8) (c : UInt8) (w : World) (hs : s.length ≤ 1000) : Calls Tryz.prog 88 #[strV s, .int .u8 (c.toNat : Int)] w fun e w' => ∃ v, e = .returned v ∧ Ext w w' ∧ w'.ownsRow w.heap.size 9 1 v (splitL c s).length ((splitL c s).map strV) := by
 have hmix : Tryz.prog.follows .mixedOrders = true := by kernel_rfl
 have hsz := size_str s
 go_enter Tryz.func88, Tryz.ntmps88
 go_wp2
 go_loopw [5, 6, 7] (fun ov fv iv wr => ∃ (i f : Nat) (out : List (List UInt8)), i ≤ s.length ∧ f ≤ i ∧ out.length ≤ i ∧ iv = .int .i64 i ∧ fv = .int .i64 f ∧ Hid (SplitAt c s i out f) ∧ wr.ownsRow w.heap.size 9 1 ov out.length (out.map strV) ∧ Ext w wr) (fun _ _ iv _ => s.length - (intOf iv).toNat)
 case atStart => exact ⟨0, 0, [], Nat.zero_le _, Nat.le_refl _, Nat.le_refl _, rfl, rfl, splitAt_zero c s, World.ownsRow_nil _ _ _ _, Ext.refl _⟩
 case round =>
  obtain ⟨i, f, out, hi, hf, ho, rfl, rfl, hsp, hown, hx⟩ := hrel
  have hz := hx.size
  have HO := Lib.hid hown
  have HXR := Lib.hid hx
  have hs1 : out.length + 1 ≤ maxLen ∧ (out.length + 1) * 16 ≤ 140737488355328 := by unfold maxLen; omega
  have HS1 := Lib.hid hs1
  clear hown hs1
  by_cases hlt : i < s.length
  ·obtain ⟨b, hb⟩ : ∃ b, Hid (s[i]? = some b) := ⟨_, List.getElem?_eq_getElem hlt⟩
   have x1 : decide ((i : Int) < (s.length : Int)) = true := by simpa using hlt
   have hat := str_at hb.out (by rw [hsz]; exact hlt)
   by_cases hbc : b = c
   ·subst hbc
    have HN := Lib.hid (splitAt_hit hsp.out hb.out)
    have HE := Lib.hid (sub_str s f i)
    have hx9 : (f : Int) ≤ (i : Int) := by omega
    have hx8 : (i : Int) ≤ (s.length : Int) := by omega
    go_wp2_with (at_builtin; refine wpList_push E_strs rfl _ _ rfl w.heap.size rfl HO.out rfl rfl (by simp [Value.oneCell']) ?_ HS1.out.1 HS1.out.2 hz; intro g cap w5 hown' hext hgr; have hx5 := hext _ HXR.out (Nat.le_refl _); clear hext hgr)
    rw [HE.out] at hown'
    refine ⟨⟨i + 1, i + 1, out ++ [(s.take i).drop f], by omega, Nat.le_refl _, by simp; omega, by go_num, by go_num, HN.out, ?_, hx5⟩, by simp [intOf]; omega⟩
    rw [List.length_append, List.length_singleton, List.map_append]
    exact hown'
   ·have HN := Lib.hid (splitAt_miss hsp.out hb.out hbc)
    have hbn : ¬ (b.toNat : Int) = (c.toNat : Int) := fun e => hbc (UInt8.toNat_inj.1 (by omega))
    have t1 : ((b.toNat : Int) == (c.toNat : Int)) = false := by simpa using hbn
    go_wp2
    exact ⟨⟨i + 1, f, out, by omega, by omega, by omega, by go_num, rfl, HN.out, HO.out, HXR.out⟩, by simp [intOf]; omega⟩
  ·have hie : i = s.length := by omega
   subst hie
   have x1 : decide ((s.length : Int) < (s.length : Int)) = false := by simp
   have HN := Lib.hid (splitAt_end hsp.out)
   have HE := Lib.hid (sub_str s f s.length)
   have HTS : Hid ((s.take s.length).drop f = s.drop f) := by unfold Hid; rw [List.take_of_length_le (Nat.le_refl _)]
   have hx9 : (f : Int) ≤ (s.length : Int) := by omega
   go_wp2_with (at_builtin; refine wpList_push E_strs rfl _ _ rfl w.heap.size rfl HO.out rfl rfl (by simp [Value.oneCell']) ?_ HS1.out.1 HS1.out.2 hz; intro g cap w5 hown' hext hgr; have hx5 := hext _ HXR.out (Nat.le_refl _); clear hext hgr)
   rw [HE.out, HTS.out] at hown'
   have hl : (splitL c s).length = out.length + 1 := by rw [HN.out, List.length_append, List.length_singleton]
   have hm : (splitL c s).map strV = out.map strV ++ [strV (s.drop f)] := by rw [HN.out, List.map_append]; rfl
   have HF : Hid (w5.ownsRow w.heap.size 9 1 (.slice (some ⟨g, 0, none⟩) (out.length + 1) cap) (splitL c s).length ((splitL c s).map strV)) := by
    unfold Hid; rw [hl, hm]; exact hown'
   clear hl hm hown'
   go_ret
   exact ⟨_, rfl, hx5, HF.out⟩
/-- What the reference's number answers. -/
def numR (s : List UInt8) : Int := if numOk s = true then valT s else -1
set_option maxRecDepth 100000 in
set_option maxHeartbeats 8000000 in
theorem rnumber_any (s : List UInt8) (w : World) : Calls Tryz.prog 89 #[strV s] w fun e w' => e = .returned (.int .i64 (numR s)) ∧ Ext w w' := by
 have hmix : Tryz.prog.follows .mixedOrders = true := by kernel_rfl
 have hsz := size_str s
 by_cases he : s = []
 ·have HF : Hid (numR s = -1) := by unfold Hid numR; rw [if_neg]; subst he; decide
  have t1 : decide ((s.length : Int) = 0) = true := by subst he; rfl
  have t2 : ((s.length : Int) == 0) = true := by subst he; rfl
  have t3 : (s.length == 0) = true := by subst he; rfl
  have t4 : s.isEmpty = true := by subst he; rfl
  clear he
  go_enter Tryz.func89, Tryz.ntmps89
  go_wp2
  go_ret
  exact ⟨by rw [HF.out]; rfl, Ext.refl _⟩
 ·have hl0 : 0 < s.length := List.length_pos_iff.2 he
  have t2 : ((s.length : Int) == 0) = false := by rw [beq_eq_false_iff_ne]; omega
  have t3 : (s.length == 0) = false := by rw [beq_eq_false_iff_ne]; omega
  have t4 : s.isEmpty = false := by simpa using he
  by_cases h6 : 2 < s.length
  ·have HF : Hid (numR s = -1) := by unfold Hid numR; rw [if_neg]; intro h; have := (num_ok h).2.2.2.2.1; omega
   have u1 : decide (2 < (s.length : Int)) = true := by simp; omega
   have u2 : decide (2 < s.length) = true := by simpa using h6
   go_enter Tryz.func89, Tryz.ntmps89
   go_wp2
   go_ret
   exact ⟨by rw [HF.out]; rfl, Ext.refl _⟩
  ·have u1 : decide (2 < (s.length : Int)) = false := by simp; omega
   have u2 : decide (2 < s.length) = false := by simpa using h6
   have HNE := Lib.hid he
   clear he hl0
   go_enter Tryz.func89, Tryz.ntmps89
   go_wp2
   go_loopw [3, 4] (fun nv iv wr => ∃ k : Nat, k ≤ s.length ∧ iv = .int .i64 k ∧ nv = .int .i64 (valT (s.take k)) ∧ Hid ((s.take k).all digB = true) ∧ wr = w) (fun _ iv _ => s.length - (intOf iv).toNat)
   case atStart => exact ⟨0, Nat.zero_le _, rfl, rfl, by simp [Hid], rfl⟩
   case round =>
    obtain ⟨k, hk, rfl, rfl, hal, rfl⟩ := hrel
    have hbd := val_bd hal.out k
    rw [List.take_take, Nat.min_self] at hbd
    have hpl : (s.take k).length ≤ 2 := by rw [List.length_take]; omega
    have hpw := pow10_le hpl
    obtain ⟨c0, c1⟩ := hbd
    have c2 : valT (s.take k) ≤ 1000 := by omega
    clear hpl hpw c1
    by_cases hlt : k < s.length
    ·obtain ⟨b, hb⟩ : ∃ b, Hid (s[k]? = some b) := ⟨_, List.getElem?_eq_getElem hlt⟩
     have hat := str_at hb.out (by rw [hsz]; exact hlt)
     have x1 : decide ((k : Int) < (s.length : Int)) = true := by simpa using hlt
     have hb9 : b.toNat < 256 := b.toNat_lt
     by_cases g1 : b.toNat < 48
     ·have HF : Hid (numR s = -1) := by
       unfold Hid numR; rw [if_neg]; intro h
       have h9 := (num_ok h).2.2.2.2.2
       rw [List.all_eq_true] at h9
       have := h9 b (List.mem_of_getElem? hb.out)
       simp only [digB, Bool.and_eq_true, decide_eq_true_eq] at this; omega
      have d1 : decide ((b.toNat : Int) < 48) = true := by simp; omega
      have d2 : decide (b.toNat < 48) = true := by simpa using g1
      go_wp2
      go_ret
      exact ⟨by rw [HF.out]; rfl, Ext.refl _⟩
     ·have d1 : decide ((b.toNat : Int) < 48) = false := by simp; omega
      have d2 : decide (b.toNat < 48) = false := by simpa using g1
      by_cases g2 : 57 < b.toNat
      ·have HF : Hid (numR s = -1) := by
        unfold Hid numR; rw [if_neg]; intro h
        have h9 := (num_ok h).2.2.2.2.2
        rw [List.all_eq_true] at h9
        have := h9 b (List.mem_of_getElem? hb.out)
        simp only [digB, Bool.and_eq_true, decide_eq_true_eq] at this; omega
       have d3 : decide (57 < (b.toNat : Int)) = true := by simp; omega
       have d4 : decide (57 < b.toNat) = true := by simpa using g2
       go_wp2
       go_ret
       exact ⟨by rw [HF.out]; rfl, Ext.refl _⟩
      ·have d3 : decide (57 < (b.toNat : Int)) = false := by simp; omega
       have d4 : decide (57 < b.toNat) = false := by simpa using g2
       have HVS : Hid (valT (s.take (k + 1)) = 10 * valT (s.take k) + ((b.toNat : Int) - 48)) := by unfold Hid; rw [List.take_add_one, hb.out, Option.toList_some, valT_snoc]
       have HAL : Hid ((s.take (k + 1)).all digB = true) := by
        unfold Hid; rw [List.take_add_one, hb.out, Option.toList_some, List.all_append, hal.out]
        simp only [List.all_cons, List.all_nil, Bool.and_true, Bool.true_and, digB, Bool.and_eq_true, decide_eq_true_eq]; omega
       generalize valT (s.take k) = v at *
       have E1 : IntKind.i64.wrap (10 * v) = 10 * v := IntWalk.i64_in _ (by omega)
       have E2 : IntKind.u8.wrap ((b.toNat : Int) - 48) = (b.toNat : Int) - 48 := by rw [IntKind.wrap_u8]; omega
       have E4 : IntKind.i64.wrap ((b.toNat : Int) - 48) = (b.toNat : Int) - 48 := IntWalk.i64_in _ (by omega)
       have E3 : IntKind.i64.wrap (10 * v + ((b.toNat : Int) - 48)) = 10 * v + ((b.toNat : Int) - 48) := IntWalk.i64_in _ (by omega)
       go_wp2
       exact ⟨⟨k + 1, by omega, by go_num, by rw [HVS.out], HAL.out, trivial⟩, by simp [intOf]; omega⟩
    ·have hke : k = s.length := by omega
     subst hke
     have HTS : Hid (s.take s.length = s) := List.take_of_length_le (Nat.le_refl _)
     rw [HTS.out] at hal c0 c2 ⊢
     have x1 : decide ((s.length : Int) < (s.length : Int)) = false := by simp
     have HD := Lib.hid (fun w1 => rdecI_any (valT s) w1 c0 (by omega))
     by_cases hq : Lib.itoa (valT s) = s
     ·have HF : Hid (numR s = valT s) := by
       unfold Hid numR; rw [if_pos]
       unfold numOk
       rw [hal.out, decide_eq_true hq, decide_eq_true HNE.out, decide_eq_true (show s.length ≤ 2 by omega)]; rfl
      rw [hq] at HD
      clear hq
      go_wp2_with (go_at_call 87; refine (HD.out _).mono ?_; rintro e w1 ⟨rfl, hx1⟩)
      go_ret
      exact ⟨by rw [HF.out]; rfl, hx1⟩
     ·have HF : Hid (numR s = -1) := by
       unfold Hid numR; rw [if_neg]; intro h; exact hq (num_ok h).2.2.1
      have q1 : decide (Lib.itoa (valT s) = s) = false := by simpa using hq
      have q2 : (Lib.itoa (valT s) == s) = false := by simpa using hq
      have q3 : (Lib.itoa (valT s) != s) = true := by simpa using hq
      clear hq
      generalize Lib.itoa (valT s) = q at *
      go_wp2_with (go_at_call 87; refine (HD.out _).mono ?_; rintro e w1 ⟨rfl, hx1⟩)
      go_ret
      exact ⟨by rw [HF.out]; rfl, hx1⟩
end Go.Proofs.YtoohhefegfpipaaGreatDoor
