/- The reference's moved and once. -/
import Derived.Test.YtokananogogjaaaGreatDoorOc
import Derived.Test.YtokananogogjaaaGreatDoorHeld
import Derived.Test.YtokananogogjaaaGreatDoorOrl
namespace Go.Proofs.YtokananogogjaaaGreatDoor
open Go.RowKit
set_option maxRecDepth 100000 in
theorem rmoved_any (va vb : Value) (xs ys : List Int) (w : World) (ha : IntsAt w va xs) (hb : IntsAt w vb ys) (hl : xs.length = ys.length) :
  Calls Tryz.prog 28 #[va, vb] w fun e w' => e = .returned (.int .i64 (movedL xs ys)) ∧ Ext w w' := by
 obtain ⟨a, c, rfl, h1, h2, h3⟩ := ha.open
 obtain ⟨a', c', rfl, h1', h2', h3'⟩ := hb.open
 have H3 := Lib.hid h3
 have H3' := Lib.hid h3'
 have HL := Lib.hid hl
 clear h3 h3' ha hb hl
 go_enter Tryz.func28, Tryz.ntmps28
 go_wp2
 go_loopw [5, 6] (fun n i wr => ∃ k : Nat, k ≤ xs.length ∧ i = .int .i64 k ∧ n = .int .i64 (movedL (xs.take k) (ys.take k)) ∧ Ext w wr) (fun _ i _ => xs.length - (intOf i).toNat)
 case atStart => exact ⟨0, Nat.zero_le _, rfl, by simp [movedL], Ext.refl _⟩
 case round =>
  obtain ⟨k, hk, rfl, rfl, hx⟩ := hrel
  by_cases hlt : k < xs.length
  ·obtain ⟨b, o, x, rfl, hxk, c0⟩ := H3.out k hlt
   obtain ⟨b', o', y, rfl, hyk, c0'⟩ := H3'.out k (by have := HL.out; omega)
   have hbd := movedL_bd (xs.take k) (ys.take k)
   rw [List.length_take_of_le hk] at hbd
   have hs := movedL_take hxk.out hyk.out
   have q0 := hx.cell c0
   have q1 := hx.cell c0'
   have k2 : k < ys.length := by have := HL.out; omega
   by_cases hxy : x = y
   ·rw [if_pos hxy] at hs
    have e : (x != y) = false := by simp [hxy]
    have HS := Lib.hid hs
    clear hs hxy c0 c0'
    generalize movedL (xs.take k) (ys.take k) = m at *
    go_upto_region 5 with fail
    go_quiet (fail)
    go_wp2
    go_roundw
    case rel => exact ⟨k + 1, by omega, by go_num, by rw [HS.out]; go_num, hx.trans ((Ext.refl _).drewN _)⟩
    case measure => simp [intOf]; omega
   ·rw [if_neg hxy] at hs
    have e : (x != y) = true := by simp [hxy]
    have HS := Lib.hid hs
    clear hs hxy c0 c0'
    generalize movedL (xs.take k) (ys.take k) = m at *
    go_upto_region 5 with fail
    go_quiet (fail)
    go_wp2
    go_roundw
    case rel => exact ⟨k + 1, by omega, by go_num, by rw [HS.out], hx.trans ((Ext.refl _).drewN _)⟩
    case measure => simp [intOf]; omega
  ·have HE : Hid (movedL (xs.take k) (ys.take k) = movedL xs ys) := by
    have := HL.out
    unfold Hid; rw [List.take_of_length_le (by omega), List.take_of_length_le (by omega)]
   rw [HE.out]
   go_wp2
   go_ret
   exact ⟨rfl, hx⟩
theorem once_take {l : List Int} {k : Nat} {x : Int} (h : l[k]? = some x) (hn : nodupB (l.take k) = true) : nodupB (l.take (k + 1)) = decide (x ∉ l.take k) := by
 rw [List.take_add_one, h]
 exact nodup_snoc (nodupB_iff.1 hn) x
theorem once_bad {l : List Int} {k j : Nat} {x : Int} (hk : l[k]? = some x) (hj : l[j]? = some x) (h : j < k) : nodupB l = false := by
 rw [← Bool.not_eq_true, nodupB_iff]
 intro hn
 have h1 := (List.getElem?_eq_some_iff.1 hk)
 have h2 := (List.getElem?_eq_some_iff.1 hj)
 have := (List.getElem_inj hn).1 (h1.2.trans h2.2.symm)
 omega
set_option maxRecDepth 100000 in
theorem ronce_any (v : Value) (l : List Int) (w : World) (hv : IntsAt w v l) : Calls Tryz.prog 27 #[v] w fun e w' => e = .returned (.bool (nodupB l)) ∧ Ext w w' := by
 obtain ⟨a, c, rfl, h1, h2, h3⟩ := hv.open
 have H3 := Lib.hid h3
 clear h3 hv
 go_enter Tryz.func27, Tryz.ntmps27
 go_wp2
 go_loopw [3] (fun i wr => ∃ k : Nat, k ≤ l.length ∧ i = .int .i64 (k : Int) ∧ Hid (nodupB (l.take k) = true) ∧ Ext w wr) (fun i _ => l.length - (intOf i).toNat)
 case atStart => exact ⟨0, Nat.zero_le _, rfl, rfl, Ext.refl _⟩
 case round =>
  obtain ⟨k, hk, rfl, hnd, hx⟩ := hrel
  by_cases hlt : k < l.length
  ·have x1 : decide ((k : Int) < (l.length : Int)) = true := by simpa using hlt
   obtain ⟨b, o, x, rfl, hxk, c0⟩ := H3.out k hlt
   have HX := Lib.hid hx
   have HC := Lib.hid c0
   clear hx c0
   go_wp2
   obtain ⟨wo, rfl⟩ : ∃ wo : World, wo = wr := ⟨_, rfl⟩
   go_loopw [4] (fun i wz => ∃ j : Nat, j ≤ k ∧ i = .int .i64 (j : Int) ∧ Hid (x ∉ l.take j) ∧ Ext w wz) (fun i _ => k - (intOf i).toNat)
   case atStart => exact ⟨0, Nat.zero_le _, rfl, by simp [Hid], HX.out⟩
   case round =>
    obtain ⟨j, hj, rfl, hno, hx⟩ := hrel
    by_cases hlt2 : j < k
    ·have x2 : decide ((j : Int) < (k : Int)) = true := by simpa using hlt2
     obtain ⟨b', o', y, hbo, hyj, c1⟩ := H3.out j (by omega)
     cases hbo
     have q0 := hx.cell HC.out
     have q1 := hx.cell c1
     have k1 : (0 : Int) ≤ (k : Int) := by omega
     have k2 : (k : Int) < (l.length : Int) := by omega
     have j1 : (0 : Int) ≤ (j : Int) := by omega
     have j2 : (j : Int) < (l.length : Int) := by omega
     by_cases hxy : y = x
     ·subst hxy
      have HR := Lib.hid (once_bad hxk.out hyj.out hlt2)
      have HX2 := Lib.hid hx
      clear hx hno hnd c1 hxk hyj
      go_upto_region 7 with fail
      go_quiet (fail)
      go_wp2
      go_ret
      exact ⟨by rw [HR.out] <;> rfl, HX2.out.drewN _⟩
     ·have e : (y == x) = false := beq_eq_false_iff_ne.2 hxy
      have e2 : decide (y = x) = false := by simpa using hxy
      have HN2 : Hid (x ∉ l.take (j + 1)) := by
       unfold Hid
       rw [List.take_add_one, hyj.out]
       intro h
       rcases List.mem_append.1 h with h | h
       ·exact hno.out h
       ·simp at h; exact hxy h.symm
      have HX2 := Lib.hid hx
      clear hx hno c1 hyj hxy
      go_upto_region 7 with fail
      go_quiet (fail)
      go_wp2
      exact ⟨⟨j + 1, by omega, by go_num, HN2.out, HX2.out.drewN _⟩, by simp [intOf]; omega⟩
    ·have hje : j = k := by omega
     subst hje
     have HN2 : Hid (nodupB (l.take (j + 1)) = true) := by
      unfold Hid
      rw [once_take hxk.out hnd.out, decide_eq_true_eq]
      exact hno.out
     have x2 : decide ((j : Int) < (j : Int)) = false := by simp
     have HX2 := Lib.hid hx
     clear hx hno hnd hxk
     go_wp2
     exact ⟨⟨j + 1, by omega, by go_num, HN2.out, HX2.out⟩, by simp [intOf]; omega⟩
  ·have hke : k = l.length := by omega
   have x1 : decide ((k : Int) < (l.length : Int)) = false := by simpa using hlt
   have HR : Hid (nodupB l = true) := by
    have h := hnd.out
    rwa [List.take_of_length_le (by omega)] at h
   have HX := Lib.hid hx
   clear hnd hx
   go_wp2
   go_ret
   exact ⟨by rw [HR.out] <;> rfl, HX.out⟩
end Go.Proofs.YtokananogogjaaaGreatDoor
