/- IndexFunc and ContainsFunc at rows of rows. -/
import Derived.Test.YtnhpibnneidmgaaGreatDoorBook
namespace Go.Proofs.YtnhpibnneidmgaaGreatDoor
open Go.RowKit
set_option maxHeartbeats 400000 in
theorem indexFuncN (v : Value) (fn : Nat) (cap : Array Value) (p : Value → Bool) (xs : List Value) (w : World) (hv : RowAt w v xs.length xs) (hp : PredV w fn cap (fun x => x) p xs)
  (ef : ∀ args w, (callFunc fn args).run Tryz.prog w = .ok (.enter fn args) w) :
  Calls Tryz.prog 166 #[v, .func (.func fn) #[] cap] w (IdxPost w (xs.any p)) := by
 obtain ⟨a, c, rfl, h1, h2, h3⟩ := hv.open
 clear hv
 go_enter Tryz.func166, Tryz.ntmps166
 go_wp2
 go_loopw [8] (fun i wr => ∃ k : Nat, k ≤ xs.length ∧ i = .int .i64 k ∧ Hid ((xs.take k).any p = false) ∧ Ext w wr) (fun i _ => xs.length - (intOf i).toNat)
 case atStart => exact ⟨0, Nat.zero_le _, rfl, by simp [Hid], Ext.refl _⟩
 case round =>
  obtain ⟨k, hk, rfl, hno, hx⟩ := hrel
  by_cases hlt : k < xs.length
  ·obtain ⟨x, hx0⟩ : ∃ x, xs[k]? = some x := ⟨xs[k], by simp [hlt]⟩
   obtain ⟨b, o, rfl, c0⟩ := h3 k x hx0
   have hxk := Lib.hid hx0
   clear hx0
   have d0 := hx.cell c0
   have hpk := hp x (List.mem_of_getElem? hxk.out) wr hx
   clear c0 h3 hp
   go_wp2_with (refine Calls.mono hpk ?_; rintro e w' ⟨rfl, hx'⟩)
   ·go_ret
    exact ⟨⟨_, rfl, by rw [any_of_at p hxk.out (by assumption)]; simp⟩, hx.trans hx'⟩
   ·go_roundw
    case rel => exact ⟨k + 1, by omega, by go_num, by unfold Hid; rw [any_take_succ p hxk.out, hno.out]; simpa using ‹p x = false›, hx.trans hx'⟩
    case measure => simp [intOf]; omega
  ·go_wp2
   go_ret
   exact ⟨⟨_, rfl, by have := hno.out; rw [List.take_of_length_le (by omega)] at this; rw [this]; simp⟩, hx⟩
theorem containsFuncN (v : Value) (fn : Nat) (cap : Array Value) (p : Value → Bool) (xs : List Value) (w : World) (hv : RowAt w v xs.length xs) (hp : PredV w fn cap (fun x => x) p xs)
  (ef : ∀ args w, (callFunc fn args).run Tryz.prog w = .ok (.enter fn args) w) :
  Calls Tryz.prog 132 #[v, .func (.func fn) #[] cap] w fun e w' => e = .returned (.bool (xs.any p)) ∧ Ext w w' := by
 go_enter Tryz.func132, Tryz.ntmps132
 go_wp2_with (go_at_call 166; refine (indexFuncN v fn cap p xs _ hv hp ef).mono ?_; rintro e w' ⟨⟨n, rfl, hn⟩, hx⟩)
 go_ret
 exact ⟨by simp, hx⟩
end Go.Proofs.YtnhpibnneidmgaaGreatDoor
