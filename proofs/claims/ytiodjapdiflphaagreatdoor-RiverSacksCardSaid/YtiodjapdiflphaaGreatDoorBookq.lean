/- IndexFunc and ContainsFunc at the types of the layer river. -/
import Derived.Test.YtiodjapdiflphaaGreatDoorBase
namespace Go.Proofs.YtiodjapdiflphaaGreatDoor
open Go.RowKit
set_option maxHeartbeats 400000 in
theorem indexFuncS {α : Type} {f : α → List Value} (f0 f1 : α → Value) (hf : ∀ x, f x = [f0 x, f1 x]) (v : Value) (fn : Nat) (cap : Array Value) (p : α → Bool) (xs : List α) (w : World) (hv : RowOf f w v xs) (hp : PredV w fn cap (fun x => .agg #[f0 x, f1 x]) p xs)
  (ef : ∀ args w, (callFunc fn args).run Tryz.prog w = .ok (.enter fn args) w) :
  Calls Tryz.prog 115 #[v, .func (.func fn) #[] cap] w (IdxPost w (xs.any p)) := by
 obtain ⟨a, c, rfl, h1, h2, h3⟩ := hv.open2 hf
 clear hv
 go_enter Tryz.func115, Tryz.ntmps115
 go_wp2
 go_loopw [8] (fun i wr => ∃ k : Nat, k ≤ xs.length ∧ i = .int .i64 k ∧ Hid ((xs.take k).any p = false) ∧ Ext w wr) (fun i _ => xs.length - (intOf i).toNat)
 case atStart => exact ⟨0, Nat.zero_le _, rfl, by simp [Hid], Ext.refl _⟩
 case round =>
  obtain ⟨k, hk, rfl, hno, hx⟩ := hrel
  by_cases hlt : k < xs.length
  ·obtain ⟨b, o, x, rfl, hxk, c0, c1⟩ := h3 k hlt
   have d0 := hx.cell c0
   have d1 := hx.cell c1
   have hpk := hp x (List.mem_of_getElem? hxk.out) wr hx
   clear c0 c1 h3 hp hf
   go_wp2_with (refine Calls.mono hpk ?_; rintro e w' ⟨rfl, hx'⟩)
   ·go_ret
    exact ⟨⟨_, rfl, by rw [any_of_at p hxk.out (by assumption)]; simp⟩, hx.trans hx'⟩
   ·go_roundw
    case rel => exact ⟨k + 1, by omega, by go_num, by unfold Hid; rw [any_take_succ p hxk.out, hno.out]; simpa using ‹p x = false›, hx.trans hx'⟩
    case measure => simp [intOf]; omega
  ·go_wp2
   go_ret
   exact ⟨⟨_, rfl, by have := hno.out; rw [List.take_of_length_le (by omega)] at this; rw [this]; simp⟩, hx⟩
theorem containsFuncS {α : Type} {f : α → List Value} (f0 f1 : α → Value) (hf : ∀ x, f x = [f0 x, f1 x]) (v : Value) (fn : Nat) (cap : Array Value) (p : α → Bool) (xs : List α) (w : World) (hv : RowOf f w v xs) (hp : PredV w fn cap (fun x => .agg #[f0 x, f1 x]) p xs)
  (ef : ∀ args w, (callFunc fn args).run Tryz.prog w = .ok (.enter fn args) w) :
  Calls Tryz.prog 82 #[v, .func (.func fn) #[] cap] w fun e w' => e = .returned (.bool (xs.any p)) ∧ Ext w w' := by
 go_enter Tryz.func82, Tryz.ntmps82
 go_wp2_with (go_at_call 115; refine (indexFuncS f0 f1 hf v fn cap p xs _ hv hp ef).mono ?_; rintro e w' ⟨⟨n, rfl, hn⟩, hx⟩)
 go_ret
 exact ⟨by simp, hx⟩
set_option maxHeartbeats 400000 in
theorem indexFuncR {α : Type} {f : α → List Value} (f0 f1 f2 : α → Value) (hf : ∀ x, f x = [f0 x, f1 x, f2 x]) (v : Value) (fn : Nat) (cap : Array Value) (p : α → Bool) (xs : List α) (w : World) (hv : RowOf f w v xs) (hp : PredV w fn cap (fun x => .agg #[f0 x, f1 x, f2 x]) p xs)
  (ef : ∀ args w, (callFunc fn args).run Tryz.prog w = .ok (.enter fn args) w) :
  Calls Tryz.prog 114 #[v, .func (.func fn) #[] cap] w (IdxPost w (xs.any p)) := by
 obtain ⟨a, c, rfl, h1, h2, h3⟩ := hv.open3 hf
 clear hv
 go_enter Tryz.func114, Tryz.ntmps114
 go_wp2
 go_loopw [8] (fun i wr => ∃ k : Nat, k ≤ xs.length ∧ i = .int .i64 k ∧ Hid ((xs.take k).any p = false) ∧ Ext w wr) (fun i _ => xs.length - (intOf i).toNat)
 case atStart => exact ⟨0, Nat.zero_le _, rfl, by simp [Hid], Ext.refl _⟩
 case round =>
  obtain ⟨k, hk, rfl, hno, hx⟩ := hrel
  by_cases hlt : k < xs.length
  ·obtain ⟨b, o, x, rfl, hxk, c0, c1, c2⟩ := h3 k hlt
   have d0 := hx.cell c0
   have d1 := hx.cell c1
   have d2 := hx.cell c2
   have hpk := hp x (List.mem_of_getElem? hxk.out) wr hx
   clear c0 c1 c2 h3 hp hf
   go_wp2_with (refine Calls.mono hpk ?_; rintro e w' ⟨rfl, hx'⟩)
   ·go_ret
    exact ⟨⟨_, rfl, by rw [any_of_at p hxk.out (by assumption)]; simp⟩, hx.trans hx'⟩
   ·go_roundw
    case rel => exact ⟨k + 1, by omega, by go_num, by unfold Hid; rw [any_take_succ p hxk.out, hno.out]; simpa using ‹p x = false›, hx.trans hx'⟩
    case measure => simp [intOf]; omega
  ·go_wp2
   go_ret
   exact ⟨⟨_, rfl, by have := hno.out; rw [List.take_of_length_le (by omega)] at this; rw [this]; simp⟩, hx⟩
theorem containsFuncR {α : Type} {f : α → List Value} (f0 f1 f2 : α → Value) (hf : ∀ x, f x = [f0 x, f1 x, f2 x]) (v : Value) (fn : Nat) (cap : Array Value) (p : α → Bool) (xs : List α) (w : World) (hv : RowOf f w v xs) (hp : PredV w fn cap (fun x => .agg #[f0 x, f1 x, f2 x]) p xs)
  (ef : ∀ args w, (callFunc fn args).run Tryz.prog w = .ok (.enter fn args) w) :
  Calls Tryz.prog 80 #[v, .func (.func fn) #[] cap] w fun e w' => e = .returned (.bool (xs.any p)) ∧ Ext w w' := by
 go_enter Tryz.func80, Tryz.ntmps80
 go_wp2_with (go_at_call 114; refine (indexFuncR f0 f1 f2 hf v fn cap p xs _ hv hp ef).mono ?_; rintro e w' ⟨⟨n, rfl, hn⟩, hx⟩)
 go_ret
 exact ⟨by simp, hx⟩
set_option maxHeartbeats 400000 in
theorem indexFuncX {α : Type} {f : α → List Value} (f0 f1 : α → Value) (hf : ∀ x, f x = [f0 x, f1 x]) (v : Value) (fn : Nat) (cap : Array Value) (p : α → Bool) (xs : List α) (w : World) (hv : RowOf f w v xs) (hp : PredV w fn cap (fun x => .agg #[f0 x, f1 x]) p xs)
  (ef : ∀ args w, (callFunc fn args).run Tryz.prog w = .ok (.enter fn args) w) :
  Calls Tryz.prog 116 #[v, .func (.func fn) #[] cap] w (IdxPost w (xs.any p)) := by
 obtain ⟨a, c, rfl, h1, h2, h3⟩ := hv.open2 hf
 clear hv
 go_enter Tryz.func116, Tryz.ntmps116
 go_wp2
 go_loopw [8] (fun i wr => ∃ k : Nat, k ≤ xs.length ∧ i = .int .i64 k ∧ Hid ((xs.take k).any p = false) ∧ Ext w wr) (fun i _ => xs.length - (intOf i).toNat)
 case atStart => exact ⟨0, Nat.zero_le _, rfl, by simp [Hid], Ext.refl _⟩
 case round =>
  obtain ⟨k, hk, rfl, hno, hx⟩ := hrel
  by_cases hlt : k < xs.length
  ·obtain ⟨b, o, x, rfl, hxk, c0, c1⟩ := h3 k hlt
   have d0 := hx.cell c0
   have d1 := hx.cell c1
   have hpk := hp x (List.mem_of_getElem? hxk.out) wr hx
   clear c0 c1 h3 hp hf
   go_wp2_with (refine Calls.mono hpk ?_; rintro e w' ⟨rfl, hx'⟩)
   ·go_ret
    exact ⟨⟨_, rfl, by rw [any_of_at p hxk.out (by assumption)]; simp⟩, hx.trans hx'⟩
   ·go_roundw
    case rel => exact ⟨k + 1, by omega, by go_num, by unfold Hid; rw [any_take_succ p hxk.out, hno.out]; simpa using ‹p x = false›, hx.trans hx'⟩
    case measure => simp [intOf]; omega
  ·go_wp2
   go_ret
   exact ⟨⟨_, rfl, by have := hno.out; rw [List.take_of_length_le (by omega)] at this; rw [this]; simp⟩, hx⟩
theorem containsFuncX {α : Type} {f : α → List Value} (f0 f1 : α → Value) (hf : ∀ x, f x = [f0 x, f1 x]) (v : Value) (fn : Nat) (cap : Array Value) (p : α → Bool) (xs : List α) (w : World) (hv : RowOf f w v xs) (hp : PredV w fn cap (fun x => .agg #[f0 x, f1 x]) p xs)
  (ef : ∀ args w, (callFunc fn args).run Tryz.prog w = .ok (.enter fn args) w) :
  Calls Tryz.prog 84 #[v, .func (.func fn) #[] cap] w fun e w' => e = .returned (.bool (xs.any p)) ∧ Ext w w' := by
 go_enter Tryz.func84, Tryz.ntmps84
 go_wp2_with (go_at_call 116; refine (indexFuncX f0 f1 hf v fn cap p xs _ hv hp ef).mono ?_; rintro e w' ⟨⟨n, rfl, hn⟩, hx⟩)
 go_ret
 exact ⟨by simp, hx⟩
set_option maxHeartbeats 400000 in
theorem indexFuncT {α : Type} {f : α → List Value} (f0 f1 : α → Value) (hf : ∀ x, f x = [f0 x, f1 x]) (v : Value) (fn : Nat) (cap : Array Value) (p : α → Bool) (xs : List α) (w : World) (hv : RowOf f w v xs) (hp : PredV w fn cap (fun x => .agg #[f0 x, f1 x]) p xs)
  (ef : ∀ args w, (callFunc fn args).run Tryz.prog w = .ok (.enter fn args) w) :
  Calls Tryz.prog 117 #[v, .func (.func fn) #[] cap] w (IdxPost w (xs.any p)) := by
 obtain ⟨a, c, rfl, h1, h2, h3⟩ := hv.open2 hf
 clear hv
 go_enter Tryz.func117, Tryz.ntmps117
 go_wp2
 go_loopw [8] (fun i wr => ∃ k : Nat, k ≤ xs.length ∧ i = .int .i64 k ∧ Hid ((xs.take k).any p = false) ∧ Ext w wr) (fun i _ => xs.length - (intOf i).toNat)
 case atStart => exact ⟨0, Nat.zero_le _, rfl, by simp [Hid], Ext.refl _⟩
 case round =>
  obtain ⟨k, hk, rfl, hno, hx⟩ := hrel
  by_cases hlt : k < xs.length
  ·obtain ⟨b, o, x, rfl, hxk, c0, c1⟩ := h3 k hlt
   have d0 := hx.cell c0
   have d1 := hx.cell c1
   have hpk := hp x (List.mem_of_getElem? hxk.out) wr hx
   clear c0 c1 h3 hp hf
   go_wp2_with (refine Calls.mono hpk ?_; rintro e w' ⟨rfl, hx'⟩)
   ·go_ret
    exact ⟨⟨_, rfl, by rw [any_of_at p hxk.out (by assumption)]; simp⟩, hx.trans hx'⟩
   ·go_roundw
    case rel => exact ⟨k + 1, by omega, by go_num, by unfold Hid; rw [any_take_succ p hxk.out, hno.out]; simpa using ‹p x = false›, hx.trans hx'⟩
    case measure => simp [intOf]; omega
  ·go_wp2
   go_ret
   exact ⟨⟨_, rfl, by have := hno.out; rw [List.take_of_length_le (by omega)] at this; rw [this]; simp⟩, hx⟩
theorem containsFuncT {α : Type} {f : α → List Value} (f0 f1 : α → Value) (hf : ∀ x, f x = [f0 x, f1 x]) (v : Value) (fn : Nat) (cap : Array Value) (p : α → Bool) (xs : List α) (w : World) (hv : RowOf f w v xs) (hp : PredV w fn cap (fun x => .agg #[f0 x, f1 x]) p xs)
  (ef : ∀ args w, (callFunc fn args).run Tryz.prog w = .ok (.enter fn args) w) :
  Calls Tryz.prog 86 #[v, .func (.func fn) #[] cap] w fun e w' => e = .returned (.bool (xs.any p)) ∧ Ext w w' := by
 go_enter Tryz.func86, Tryz.ntmps86
 go_wp2_with (go_at_call 117; refine (indexFuncT f0 f1 hf v fn cap p xs _ hv hp ef).mono ?_; rintro e w' ⟨⟨n, rfl, hn⟩, hx⟩)
 go_ret
 exact ⟨by simp, hx⟩
set_option maxHeartbeats 400000 in
theorem indexFuncL {α : Type} {f : α → List Value} (f0 f1 f2 f3 : α → Value) (hf : ∀ x, f x = [f0 x, f1 x, f2 x, f3 x]) (v : Value) (fn : Nat) (cap : Array Value) (p : α → Bool) (xs : List α) (w : World) (hv : RowOf f w v xs) (hp : PredV w fn cap (fun x => .agg #[f0 x, f1 x, f2 x, f3 x]) p xs)
  (ef : ∀ args w, (callFunc fn args).run Tryz.prog w = .ok (.enter fn args) w) :
  Calls Tryz.prog 128 #[v, .func (.func fn) #[] cap] w (IdxPost w (xs.any p)) := by
 obtain ⟨a, c, rfl, h1, h2, h3⟩ := hv.open4 hf
 clear hv
 go_enter Tryz.func128, Tryz.ntmps128
 go_wp2
 go_loopw [8] (fun i wr => ∃ k : Nat, k ≤ xs.length ∧ i = .int .i64 k ∧ Hid ((xs.take k).any p = false) ∧ Ext w wr) (fun i _ => xs.length - (intOf i).toNat)
 case atStart => exact ⟨0, Nat.zero_le _, rfl, by simp [Hid], Ext.refl _⟩
 case round =>
  obtain ⟨k, hk, rfl, hno, hx⟩ := hrel
  by_cases hlt : k < xs.length
  ·obtain ⟨b, o, x, rfl, hxk, c0, c1, c2, c3⟩ := h3 k hlt
   have d0 := hx.cell c0
   have d1 := hx.cell c1
   have d2 := hx.cell c2
   have d3 := hx.cell c3
   have hpk := hp x (List.mem_of_getElem? hxk.out) wr hx
   clear c0 c1 c2 c3 h3 hp hf
   go_wp2_with (refine Calls.mono hpk ?_; rintro e w' ⟨rfl, hx'⟩)
   ·go_ret
    exact ⟨⟨_, rfl, by rw [any_of_at p hxk.out (by assumption)]; simp⟩, hx.trans hx'⟩
   ·go_roundw
    case rel => exact ⟨k + 1, by omega, by go_num, by unfold Hid; rw [any_take_succ p hxk.out, hno.out]; simpa using ‹p x = false›, hx.trans hx'⟩
    case measure => simp [intOf]; omega
  ·go_wp2
   go_ret
   exact ⟨⟨_, rfl, by have := hno.out; rw [List.take_of_length_le (by omega)] at this; rw [this]; simp⟩, hx⟩
theorem containsFuncL {α : Type} {f : α → List Value} (f0 f1 f2 f3 : α → Value) (hf : ∀ x, f x = [f0 x, f1 x, f2 x, f3 x]) (v : Value) (fn : Nat) (cap : Array Value) (p : α → Bool) (xs : List α) (w : World) (hv : RowOf f w v xs) (hp : PredV w fn cap (fun x => .agg #[f0 x, f1 x, f2 x, f3 x]) p xs)
  (ef : ∀ args w, (callFunc fn args).run Tryz.prog w = .ok (.enter fn args) w) :
  Calls Tryz.prog 100 #[v, .func (.func fn) #[] cap] w fun e w' => e = .returned (.bool (xs.any p)) ∧ Ext w w' := by
 go_enter Tryz.func100, Tryz.ntmps100
 go_wp2_with (go_at_call 128; refine (indexFuncL f0 f1 f2 f3 hf v fn cap p xs _ hv hp ef).mono ?_; rintro e w' ⟨⟨n, rfl, hn⟩, hx⟩)
 go_ret
 exact ⟨by simp, hx⟩
set_option maxHeartbeats 400000 in
theorem indexFuncK {α : Type} {f : α → List Value} (f0 f1 f2 f3 : α → Value) (hf : ∀ x, f x = [f0 x, f1 x, f2 x, f3 x]) (v : Value) (fn : Nat) (cap : Array Value) (p : α → Bool) (xs : List α) (w : World) (hv : RowOf f w v xs) (hp : PredV w fn cap (fun x => .agg #[f0 x, f1 x, f2 x, f3 x]) p xs)
  (ef : ∀ args w, (callFunc fn args).run Tryz.prog w = .ok (.enter fn args) w) :
  Calls Tryz.prog 129 #[v, .func (.func fn) #[] cap] w (IdxPost w (xs.any p)) := by
 obtain ⟨a, c, rfl, h1, h2, h3⟩ := hv.open4 hf
 clear hv
 go_enter Tryz.func129, Tryz.ntmps129
 go_wp2
 go_loopw [8] (fun i wr => ∃ k : Nat, k ≤ xs.length ∧ i = .int .i64 k ∧ Hid ((xs.take k).any p = false) ∧ Ext w wr) (fun i _ => xs.length - (intOf i).toNat)
 case atStart => exact ⟨0, Nat.zero_le _, rfl, by simp [Hid], Ext.refl _⟩
 case round =>
  obtain ⟨k, hk, rfl, hno, hx⟩ := hrel
  by_cases hlt : k < xs.length
  ·obtain ⟨b, o, x, rfl, hxk, c0, c1, c2, c3⟩ := h3 k hlt
   have d0 := hx.cell c0
   have d1 := hx.cell c1
   have d2 := hx.cell c2
   have d3 := hx.cell c3
   have hpk := hp x (List.mem_of_getElem? hxk.out) wr hx
   clear c0 c1 c2 c3 h3 hp hf
   go_wp2_with (refine Calls.mono hpk ?_; rintro e w' ⟨rfl, hx'⟩)
   ·go_ret
    exact ⟨⟨_, rfl, by rw [any_of_at p hxk.out (by assumption)]; simp⟩, hx.trans hx'⟩
   ·go_roundw
    case rel => exact ⟨k + 1, by omega, by go_num, by unfold Hid; rw [any_take_succ p hxk.out, hno.out]; simpa using ‹p x = false›, hx.trans hx'⟩
    case measure => simp [intOf]; omega
  ·go_wp2
   go_ret
   exact ⟨⟨_, rfl, by have := hno.out; rw [List.take_of_length_le (by omega)] at this; rw [this]; simp⟩, hx⟩
theorem containsFuncK {α : Type} {f : α → List Value} (f0 f1 f2 f3 : α → Value) (hf : ∀ x, f x = [f0 x, f1 x, f2 x, f3 x]) (v : Value) (fn : Nat) (cap : Array Value) (p : α → Bool) (xs : List α) (w : World) (hv : RowOf f w v xs) (hp : PredV w fn cap (fun x => .agg #[f0 x, f1 x, f2 x, f3 x]) p xs)
  (ef : ∀ args w, (callFunc fn args).run Tryz.prog w = .ok (.enter fn args) w) :
  Calls Tryz.prog 102 #[v, .func (.func fn) #[] cap] w fun e w' => e = .returned (.bool (xs.any p)) ∧ Ext w w' := by
 go_enter Tryz.func102, Tryz.ntmps102
 go_wp2_with (go_at_call 129; refine (indexFuncK f0 f1 f2 f3 hf v fn cap p xs _ hv hp ef).mono ?_; rintro e w' ⟨⟨n, rfl, hn⟩, hx⟩)
 go_ret
 exact ⟨by simp, hx⟩
set_option maxHeartbeats 400000 in
theorem indexFuncI (v : Value) (fn : Nat) (cap : Array Value) (p : Int → Bool) (xs : List Int) (w : World) (hv : IntsAt w v xs) (hp : PredV w fn cap (fun x => .int .i64 x) p xs)
  (ef : ∀ args w, (callFunc fn args).run Tryz.prog w = .ok (.enter fn args) w) :
  Calls Tryz.prog 127 #[v, .func (.func fn) #[] cap] w (IdxPost w (xs.any p)) := by
 obtain ⟨a, c, rfl, h1, h2, h3⟩ := hv.open
 clear hv
 go_enter Tryz.func127, Tryz.ntmps127
 go_wp2
 go_loopw [8] (fun i wr => ∃ k : Nat, k ≤ xs.length ∧ i = .int .i64 k ∧ Hid ((xs.take k).any p = false) ∧ Ext w wr) (fun i _ => xs.length - (intOf i).toNat)
 case atStart => exact ⟨0, Nat.zero_le _, rfl, by simp [Hid], Ext.refl _⟩
 case round =>
  obtain ⟨k, hk, rfl, hno, hx⟩ := hrel
  by_cases hlt : k < xs.length
  ·obtain ⟨b, o, x, rfl, hxk, c0⟩ := h3 k hlt
   have d0 := hx.cell c0
   have hpk := hp x (List.mem_of_getElem? hxk.out) wr hx
   clear c0 h3 hp
   go_wp2_with (refine Calls.mono hpk ?_; rintro e w' ⟨rfl, hx'⟩)
   ·go_ret
    exact ⟨⟨_, rfl, by rw [any_of_at p hxk.out (by assumption)]; simp⟩, hx.trans hx'⟩
   ·go_roundw
    case rel => exact ⟨k + 1, by omega, by go_num, by unfold Hid; rw [any_take_succ p hxk.out, hno.out]; simpa using ‹p x = false›, hx.trans hx'⟩
    case measure => simp [intOf]; omega
  ·go_wp2
   go_ret
   exact ⟨⟨_, rfl, by have := hno.out; rw [List.take_of_length_le (by omega)] at this; rw [this]; simp⟩, hx⟩
theorem containsFuncI (v : Value) (fn : Nat) (cap : Array Value) (p : Int → Bool) (xs : List Int) (w : World) (hv : IntsAt w v xs) (hp : PredV w fn cap (fun x => .int .i64 x) p xs)
  (ef : ∀ args w, (callFunc fn args).run Tryz.prog w = .ok (.enter fn args) w) :
  Calls Tryz.prog 98 #[v, .func (.func fn) #[] cap] w fun e w' => e = .returned (.bool (xs.any p)) ∧ Ext w w' := by
 go_enter Tryz.func98, Tryz.ntmps98
 go_wp2_with (go_at_call 127; refine (indexFuncI v fn cap p xs _ hv hp ef).mono ?_; rintro e w' ⟨⟨n, rfl, hn⟩, hx⟩)
 go_ret
 exact ⟨by simp, hx⟩
end Go.Proofs.YtiodjapdiflphaaGreatDoor
/- Books, shells and sacks: what they are, how they lie in memory, and the contracts of the functions that look at them. -/
namespace Go.Proofs.YtiodjapdiflphaaGreatDoor
/-! ### In plain Lean -/
structure River where
 grow : List (Int × Int)
 vary : Int
 closed : Int
structure Book where
 years : Int
 rivers : List River
structure Shell where
 rings : List Int
 off : Int
structure Sack where
 shells : List Shell
 tests : List (Int × Bool)
def badSpan (s : Int × Int) : Bool := !inB s.1 0 s.2 || decide (40 < s.2) || decide (4 < s.2 - s.1)
def badRiver (years : Int) (r : River) : Bool := !decide ((r.grow.length : Int) = years) || !inB r.vary 0 3 || !inB r.closed 0 (2 ^ years.toNat - 1) || r.grow.any badSpan
def isBookB (b : Book) : Bool := inB b.years 1 6 && inB b.rivers.length 1 3 && !b.rivers.any (badRiver b.years)
def isShellB (s : Shell) : Bool := inB s.rings.length 1 5 && inB s.off 0 3 && !s.rings.any (fun n => !inB n 0 60)
def isSackB (s : Sack) : Bool := inB s.shells.length 1 4 && decide (s.tests.length ≤ 6) && !s.shells.any (fun x => !isShellB x) && !s.tests.any (fun t => !inB t.1 0 (s.shells.length - 1))
theorem badSpan_iff {s : Int × Int} : badSpan s = false ↔ (0 ≤ s.1 ∧ s.1 ≤ s.2) ∧ s.2 ≤ 40 ∧ s.2 - s.1 ≤ 4 := by
 simp only [badSpan, Bool.or_eq_false_iff, Bool.not_eq_false', inB_iff, decide_eq_false_iff_not, Int.not_lt, and_assoc]
/-- What a book that is as defined holds to. -/
structure BookB (b : Book) : Prop where
 y1 : 1 ≤ b.years
 y2 : b.years ≤ 6
 n1 : 1 ≤ b.rivers.length
 n2 : b.rivers.length ≤ 3
 len : ∀ r, r ∈ b.rivers → (r.grow.length : Int) = b.years
 vary : ∀ r, r ∈ b.rivers → 0 ≤ r.vary ∧ r.vary ≤ 3
 closed : ∀ r, r ∈ b.rivers → 0 ≤ r.closed ∧ r.closed < 2 ^ b.years.toNat
 span : ∀ r, r ∈ b.rivers → ∀ s, s ∈ r.grow → 0 ≤ s.1 ∧ s.1 ≤ s.2 ∧ s.2 ≤ 40 ∧ s.2 - s.1 ≤ 4
theorem bookB_of {b : Book} (h : isBookB b = true) : BookB b := by
 simp only [isBookB, Bool.and_eq_true, inB_iff, Bool.not_eq_true', List.any_eq_false, Bool.not_eq_true, badRiver, Bool.or_eq_false_iff, Bool.not_eq_false', decide_eq_true_eq, badSpan_iff] at h
 obtain ⟨⟨⟨a, b1⟩, c, d⟩, e⟩ := h
 exact ⟨a, b1, by omega, by omega, fun r hr => (e r hr).1.1.1, fun r hr => (e r hr).1.1.2, fun r hr => by have := (e r hr).1.2; omega, fun r hr s hs => by have := (e r hr).2 s hs; omega⟩
structure ShellB (s : Shell) : Prop where
 n1 : 1 ≤ s.rings.length
 n2 : s.rings.length ≤ 5
 off : 0 ≤ s.off ∧ s.off ≤ 3
 ring : ∀ n, n ∈ s.rings → 0 ≤ n ∧ n ≤ 60
theorem shellB_of {s : Shell} (h : isShellB s = true) : ShellB s := by
 simp only [isShellB, Bool.and_eq_true, inB_iff, Bool.not_eq_true', List.any_eq_false, Bool.not_eq_false] at h
 obtain ⟨⟨⟨a, b⟩, c⟩, d⟩ := h
 exact ⟨by omega, by omega, c, d⟩
structure SackB (s : Sack) : Prop where
 n1 : 1 ≤ s.shells.length
 n2 : s.shells.length ≤ 4
 t : s.tests.length ≤ 6
 shell : ∀ x, x ∈ s.shells → ShellB x
 test : ∀ t, t ∈ s.tests → 0 ≤ t.1 ∧ t.1 < s.shells.length
theorem sackB_of {s : Sack} (h : isSackB s = true) : SackB s := by
 simp only [isSackB, Bool.and_eq_true, inB_iff, Bool.not_eq_true', List.any_eq_false, Bool.not_eq_false, decide_eq_true_eq] at h
 obtain ⟨⟨⟨⟨a, b⟩, c⟩, d⟩, e⟩ := h
 exact ⟨by omega, by omega, c, fun x hx => shellB_of (d x hx), fun t ht => by have := e t ht; omega⟩
end Go.Proofs.YtiodjapdiflphaaGreatDoor
/- In memory. -/
namespace Go.Proofs.YtiodjapdiflphaaGreatDoor
open Go.RowKit
def pairC (s : Int × Int) : List Value := [.int .i64 s.1, .int .i64 s.2]
def testC (t : Int × Bool) : List Value := [.int .i64 t.1, .bool t.2]
def riverC (x : Value × River) : List Value := [x.1, .int .i64 x.2.vary, .int .i64 x.2.closed]
def shellC (x : Value × Shell) : List Value := [x.1, .int .i64 x.2.off]
/-- Spans, or origins. -/
def PairsAt (w : World) (v : Value) (xs : List (Int × Int)) : Prop := RowOf pairC w v xs
def RiversAt (w : World) (v : Value) (rs : List River) : Prop := ∃ xs : List (Value × River), xs.map Prod.snd = rs ∧ RowOf riverC w v xs ∧ ∀ x, x ∈ xs → PairsAt w x.1 x.2.grow
def ShellsAt (w : World) (v : Value) (ss : List Shell) : Prop := ∃ xs : List (Value × Shell), xs.map Prod.snd = ss ∧ RowOf shellC w v xs ∧ ∀ x, x ∈ xs → IntsAt w x.1 x.2.rings
def BookAt (w : World) (v : Value) (b : Book) : Prop := ∃ rv, v = .agg #[.int .i64 b.years, rv] ∧ RiversAt w rv b.rivers
def ShellAt (w : World) (v : Value) (s : Shell) : Prop := ∃ rv, v = .agg #[rv, .int .i64 s.off] ∧ IntsAt w rv s.rings
def SackAt (w : World) (v : Value) (s : Sack) : Prop := ∃ sv tv, v = .agg #[sv, tv] ∧ ShellsAt w sv s.shells ∧ RowOf testC w tv s.tests
theorem PairsAt.ext {w w' : World} {v : Value} {xs : List (Int × Int)} (h : PairsAt w v xs) (k : Ext w w') : PairsAt w' v xs := RowOf.ext h k
theorem RiversAt.ext {w w' : World} {v : Value} {rs : List River} (h : RiversAt w v rs) (k : Ext w w') : RiversAt w' v rs := by
 obtain ⟨xs, h1, h2, h3⟩ := h
 exact ⟨xs, h1, h2.ext k, fun x hx => (h3 x hx).ext k⟩
theorem ShellsAt.ext {w w' : World} {v : Value} {ss : List Shell} (h : ShellsAt w v ss) (k : Ext w w') : ShellsAt w' v ss := by
 obtain ⟨xs, h1, h2, h3⟩ := h
 exact ⟨xs, h1, h2.ext k, fun x hx => (h3 x hx).ext k⟩
theorem BookAt.ext {w w' : World} {v : Value} {b : Book} (h : BookAt w v b) (k : Ext w w') : BookAt w' v b := by
 obtain ⟨rv, h1, h2⟩ := h
 exact ⟨rv, h1, h2.ext k⟩
theorem ShellAt.ext {w w' : World} {v : Value} {s : Shell} (h : ShellAt w v s) (k : Ext w w') : ShellAt w' v s := by
 obtain ⟨rv, h1, h2⟩ := h
 exact ⟨rv, h1, h2.ext k⟩
theorem SackAt.ext {w w' : World} {v : Value} {s : Sack} (h : SackAt w v s) (k : Ext w w') : SackAt w' v s := by
 obtain ⟨sv, tv, h1, h2, h3⟩ := h
 exact ⟨sv, tv, h1, h2.ext k, h3.ext k⟩
end Go.Proofs.YtiodjapdiflphaaGreatDoor
/- What the layer river computes, in plain Lean: no program in sight. -/
namespace Go.Proofs.YtiodjapdiflphaaGreatDoor
/-! ### Origins, states, truths -/
abbrev Org := Int × Int
structure State where
 org : List Org
 wea : List (List (Int × Int))
 deriving DecidableEq
def hasB (set n : Nat) : Bool := set.testBit n
def riverOf (b : Book) (r : Int) : River := b.rivers.getD r.toNat ⟨[], 0, 0⟩
def closedB (b : Book) (o : Org) : Bool := hasB (riverOf b o.1).closed.toNat o.2.toNat
def originsOf (b : Book) (n : Nat) : List Org :=
 (List.range b.rivers.length).flatMap fun (r : Nat) => (List.range (b.years.toNat + 1 - n)).map fun (j : Nat) => ((r : Int), ((n - 1 + j : Nat) : Int))
def meet (s : Int × Int) (n off : Int) : Int × Int := (max s.1 (n - off), min s.2 (n + off))
/-- The weather of a river after the rings of a shell, from year p on; none, if no weather agrees. -/
def narrowL (off : Int) : List Int → Nat → List (Int × Int) → Option (List (Int × Int))
 | [], _, row => some row
 | n :: ns, p, row => if (meet (row.getD p (0, 0)) n off).2 < (meet (row.getD p (0, 0)) n off).1 then none else narrowL off ns (p + 1) (row.set p (meet (row.getD p (0, 0)) n off))
def firstY (o : Org) (s : Shell) : Nat := o.2.toNat + 1 - s.rings.length
def withB (b : Book) (x : State) (s : Shell) (o : Org) : Option State :=
 (narrowL ((riverOf b o.1).vary + s.off) s.rings (firstY o s) (x.wea.getD o.1.toNat [])).map fun row => ⟨x.org ++ [o], x.wea.set o.1.toNat row⟩
def testedB (b : Book) (tests : List (Int × Bool)) (i : Nat) (o : Org) : Bool := !tests.any fun t => decide (t.1 = (i : Int)) && (t.2 != closedB b o)
def beginB (b : Book) : State := ⟨[], b.rivers.map River.grow⟩
/-- What the truths are that go on from a state, with f shells left. -/
def nextsOf (b : Book) (s : Sack) (x : State) (o : Org) : Option State :=
 if testedB b s.tests x.org.length o then withB b x (s.shells.getD x.org.length ⟨[], 0⟩) o else none
def truthsFrom (b : Book) (s : Sack) : Nat → State → List State
 | 0, x => [x]
 | f + 1, x => (originsOf b (s.shells.getD x.org.length ⟨[], 0⟩).rings.length).flatMap fun o => match nextsOf b s x o with | some y => truthsFrom b s f y | none => []
def truthsOf (b : Book) (s : Sack) : List State := truthsFrom b s s.shells.length (beginB b)
def orgAt (x : State) (i : Nat) : Org := x.org.getD i (0, 0)
/-- The origins of a shell, over all truths, in order. -/
def couldOf (b : Book) (s : Sack) (i : Nat) : List Org := (originsOf b (s.shells.getD i ⟨[], 0⟩).rings.length).filter fun o => (truthsOf b s).any fun x => orgAt x i == o
def oneOf (x : Shell) : Sack := ⟨[x], []⟩
def wordOf (b : Book) (l : List Org) : Int :=
 if l.countP (closedB b) = 0 then 1 else if l.countP (closedB b) = l.length then 3 else 2
def hull (x y : Int × Int) : Int × Int := (min x.1 y.1, max x.2 y.2)
def weatherOf (b : Book) (s : Sack) : List (List (Int × Int)) := match truthsOf b s with
 | [] => []
 | x :: xs => xs.foldl (fun out y => List.zipWith (List.zipWith hull) out y.wea) x.wea
def patternOf (b : Book) (x : State) : Nat := ((List.range x.org.length).filter fun i => closedB b (orgAt x i)).foldl (fun n i => n + 2 ^ i) 0
def patternsOf (b : Book) (s : Sack) : List Nat := (List.range 16).filter fun p => (truthsOf b s).any fun x => patternOf b x == p
def manyB (p : Nat) : Nat := ((List.range 4).filter (hasB p)).length
def closedOf (b : Book) (s : Sack) : Int × Int := (patternsOf b s).foldl (fun o p => (min o.1 (manyB p), max o.2 (manyB p))) ((s.shells.length : Int), 0)
/-! ### Tests -/
def knownB (least : Int) (l : List Nat) : Bool := !(l.any fun p => decide (least ≤ manyB p)) || !(l.any fun p => decide ((manyB p : Int) < least))
def yesOf (l : List Nat) (i : Nat) : List Nat := l.filter fun p => hasB p i
def noOf (l : List Nat) (i : Nat) : List Nat := l.filter fun p => !hasB p i
def betterB (out : Int × Int) (i n : Int) : Int × Int := if out.1 < 0 ∨ n < out.2 then (i, n) else out
def bestF (least : Int) : Nat → List Nat → Int × Int
 | 0, _ => (-1, 0)
 | f + 1, l => (List.range 4).foldl (fun out i => if yesOf l i = [] ∨ noOf l i = [] then out else
   betterB out i (1 + max (if knownB least (yesOf l i) then 0 else (bestF least f (yesOf l i)).2) (if knownB least (noOf l i) then 0 else (bestF least f (noOf l i)).2))) (-1, 0)
def bestP (least : Int) (l : List Nat) : Int × Int := bestF least l.length l
def neededP (least : Int) (l : List Nat) : Int := if knownB least l then 0 else (bestP least l).2
/-! ### Lengths -/
def growOf (b : Book) (r y : Int) : Int × Int := (riverOf b r).grow.getD y.toNat (0, 0)
def leastOf (b : Book) (r y : Int) : Int := max 0 ((growOf b r y).1 - (riverOf b r).vary)
def greatestOf (b : Book) (r y : Int) : Int := (growOf b r y).2 + (riverOf b r).vary
def sumFrom (f : Int → Int) (y : Int) : Nat → Int
 | 0 => 0
 | n + 1 => sumFrom f y n + f (y + n)
def lengthOf (b : Book) (r y z : Int) : Int × Int := (sumFrom (leastOf b r) y (z + 1 - y).toNat, sumFrom (greatestOf b r) y (z + 1 - y).toNat)
/-- The first year, counted from y, in which a mussel surely has the size. -/
def ripeOf (b : Book) (r y size : Int) : Option Nat := (List.range (b.years - y).toNat).find? fun k => decide (size ≤ sumFrom (leastOf b r) y (k + 1))
/-! ### Deals -/
structure Licence where
 river : Int
 first : Int
 last : Int
 quota : Int
structure Take where
 river : Int
 low : Int
 high : Int
 many : Int
def isRiverB (b : Book) (n : Int) : Bool := inB n 0 (b.rivers.length - 1)
def isYearB (b : Book) (n : Int) : Bool := inB n 0 (b.years - 1)
def badLicence (b : Book) (x : Licence) : Bool := !isRiverB b x.river || !isYearB b x.first || !isYearB b x.last || decide (x.last < x.first) || !inB x.quota 0 100
def badTake (b : Book) (x : Take) : Bool := !isRiverB b x.river || !isYearB b x.low || !isYearB b x.high || decide (x.high < x.low) || !inB x.many 0 100
def areLicencesB (b : Book) (l : List Licence) : Bool := decide (l.length ≤ 4) && !l.any (badLicence b)
def areTakesB (b : Book) (l : List Take) : Bool := decide (l.length ≤ 6) && !l.any (badTake b)
def goodB (b : Book) (x : Licence) (t : Take) : Bool :=
 !(decide (x.river ≠ t.river) || decide (t.low < x.first) || decide (x.last < t.high)) && !(List.range (t.high + 1 - t.low).toNat).any fun k => closedB b (t.river, t.low + k)
abbrev DealS := List Int × Int
def licAt (l : List Licence) (n : Nat) : Licence := l.getD n ⟨0, 0, 0, 0⟩
def dealAt (b : Book) (l : List Licence) (t : Take) (used : List Int) (n : Nat) : Bool := goodB b (licAt l n) t && decide (used.getD n 0 + t.many ≤ (licAt l n).quota)
def dealsFrom (b : Book) (l : List Licence) : List Take → DealS → List Int → List DealS
 | [], now, _ => [now]
 | t :: ts, now, used => dealsFrom b l ts (now.1 ++ [-1], now.2 + t.many) used ++ (List.range l.length).flatMap fun n =>
   if dealAt b l t used n then dealsFrom b l ts (now.1 ++ [(n : Int)], now.2) (used.set n (used.getD n 0 + t.many)) else []
def dealsOf (b : Book) (l : List Licence) (ts : List Take) : List DealS := dealsFrom b l ts ([], 0) (List.replicate l.length 0)
def stepBest {α : Type} (lt : α → α → Bool) (acc : Option α) (x : α) : Option α := match acc with
 | none => some x
 | some y => if lt x y then some x else some y
def firstBest {α : Type} (lt : α → α → Bool) (xs : List α) : Option α := xs.foldl (stepBest lt) none
def dealOf (b : Book) (l : List Licence) (ts : List Take) : DealS := (firstBest (fun x y => decide (x.2 < y.2)) (dealsOf b l ts)).getD ([], 0)
/-! ### The document's examples -/
def exB : Book := ⟨4, [⟨[(10, 12), (14, 16), (8, 9), (20, 22)], 1, 4⟩, ⟨[(12, 14), (9, 10), (15, 15), (10, 12)], 0, 10⟩]⟩
def exS : Sack := ⟨[⟨[13, 9], 1⟩, ⟨[12], 1⟩, ⟨[17], 0⟩], []⟩
def exL : List Licence := [⟨0, 0, 1, 10⟩, ⟨1, 0, 3, 6⟩]
def exK : List Take := [⟨0, 0, 1, 6⟩, ⟨0, 1, 1, 5⟩, ⟨1, 0, 0, 4⟩, ⟨1, 0, 1, 1⟩]
theorem ex_could : couldOf exB (oneOf ⟨[12], 1⟩) 0 = [(0, 0), (0, 1), (1, 0), (1, 3)] := by decide +kernel
theorem ex_word : wordOf exB (couldOf exB (oneOf ⟨[13, 9], 1⟩) 0) = 3 := by decide +kernel
theorem ex_origins : couldOf exB exS 0 = [(1, 1)] := by decide +kernel
theorem ex_weather : weatherOf exB exS = [[(10, 12), (16, 16), (8, 9), (20, 22)], [(12, 14), (9, 10), (15, 15), (10, 12)]] := by decide +kernel
theorem ex_closed : closedOf exB exS = (1, 2) := by decide +kernel
theorem ex_known : knownB 2 (patternsOf exB exS) = false := by decide +kernel
theorem ex_tests : bestP 2 (patternsOf exB exS) = (1, 1) := by decide +kernel
theorem ex_length : lengthOf exB 0 0 2 = (29, 40) := by decide +kernel
theorem ex_ripe : ripeOf exB 0 0 25 = some 2 := by decide +kernel
theorem ex_deal : dealOf exB exL exK = ([0, -1, 1, -1], 6) := by decide +kernel
theorem ex_book : isBookB exB = true := by decide +kernel
end Go.Proofs.YtiodjapdiflphaaGreatDoor
