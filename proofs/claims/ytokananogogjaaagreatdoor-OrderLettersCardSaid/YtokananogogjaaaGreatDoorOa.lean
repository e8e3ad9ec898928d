/- The library's IndexFunc and ContainsFunc at order's element types. -/
import Derived.Test.YtokananogogjaaaGreatDoorOb
namespace Go.Proofs.YtokananogogjaaaGreatDoor
open Go.RowKit
theorem RowOf.open1 {α : Type} {f : α → List Value} {f0 : α → Value} (hf : ∀ x, f x = [f0 x]) {w : World} {v : Value} {xs : List α} (h : RowOf f w v xs) : ∃ a c, v = .slice a xs.length c ∧ xs.length ≤ c ∧ c ≤ 9223372036854775807 ∧
  ∀ i, i < xs.length → ∃ b o x, a = some ⟨b, o, none⟩ ∧ Hid (xs[i]? = some x) ∧ w.cell? ⟨b, o + i, none⟩ = some (f0 x) := by
 obtain ⟨a, c, hv, h1, h2, h3⟩ := RowOf.key (n := 1) (fun x => by rw [hf]; rfl) (by omega) h
 refine ⟨a, c, hv, h1, h2, fun i hi => ?_⟩
 obtain ⟨b, o, x, ha, hx, hc⟩ := h3 i hi
 have h0 := hc 0 (f0 x) (by omega) (by rw [hf]; rfl)
 rw [show o + (i * 1 + 0) = o + i by omega] at h0
 exact ⟨b, o, x, ha, hx, h0⟩
set_option maxHeartbeats 400000 in
theorem indexFuncG {α : Type} {f : α → List Value} (f0 : α → Value) (hf : ∀ x, f x = [f0 x]) (v : Value) (fn : Nat) (cap : Array Value) (p : α → Bool) (xs : List α) (w : World) (hv : RowOf f w v xs) (hp : PredV w fn cap (fun x => .agg #[f0 x]) p xs)
  (ef : ∀ args w, (callFunc fn args).run Tryz.prog w = .ok (.enter fn args) w) :
  Calls Tryz.prog 134 #[v, .func (.func fn) #[] cap] w (IdxPost w (xs.any p)) := by
 obtain ⟨a, c, rfl, h1, h2, h3⟩ := hv.open1 hf
 clear hv
 go_enter Tryz.func134, Tryz.ntmps134
 go_wp2
 go_loopw [8] (fun i wr => ∃ k : Nat, k ≤ xs.length ∧ i = .int .i64 k ∧ Hid ((xs.take k).any p = false) ∧ Ext w wr) (fun i _ => xs.length - (intOf i).toNat)
 case atStart => exact ⟨0, Nat.zero_le _, rfl, by simp [Hid], Ext.refl _⟩
 case round =>
  obtain ⟨k, hk, rfl, hno, hx⟩ := hrel
  by_cases hlt : k < xs.length
  ·obtain ⟨b, o, x, rfl, hxk, c0⟩ := h3 k hlt
   have d0 := hx.cell c0
   have hpk := hp x (List.mem_of_getElem? hxk.out) wr hx
   clear c0 h3 hp hf
   go_wp2_with (refine Calls.mono hpk ?_; rintro e w' ⟨rfl, hx'⟩)
   ·go_ret
    exact ⟨⟨_, rfl, by rw [any_of_at p hxk.out (by assumption)]; simp⟩, hx.trans hx'⟩
   ·go_roundw
    case rel => exact ⟨k + 1, by omega, by go_num, by unfold Hid; rw [any_take_succ p hxk.out, hno.out]; simpa using ‹p x = false›, hx.trans hx'⟩
    case measure => simp [intOf]; omega
  ·go_wp2
   go_ret
   exact ⟨⟨_, rfl, by have := hno.out; rw [List.take_of_length_le (by omega)] at this; rw [this]; simp⟩, hx⟩
theorem containsFuncG {α : Type} {f : α → List Value} (f0 : α → Value) (hf : ∀ x, f x = [f0 x]) (v : Value) (fn : Nat) (cap : Array Value) (p : α → Bool) (xs : List α) (w : World) (hv : RowOf f w v xs) (hp : PredV w fn cap (fun x => .agg #[f0 x]) p xs)
  (ef : ∀ args w, (callFunc fn args).run Tryz.prog w = .ok (.enter fn args) w) :
  Calls Tryz.prog 109 #[v, .func (.func fn) #[] cap] w fun e w' => e = .returned (.bool (xs.any p)) ∧ Ext w w' := by
 go_enter Tryz.func109, Tryz.ntmps109
 go_wp2_with (go_at_call 134; refine (indexFuncG f0 hf v fn cap p xs _ hv hp ef).mono ?_; rintro e w' ⟨⟨n, rfl, hn⟩, hx⟩)
 go_ret
 exact ⟨by simp, hx⟩
set_option maxHeartbeats 400000 in
theorem indexFuncE {α : Type} {f : α → List Value} (f0 f1 f2 : α → Value) (hf : ∀ x, f x = [f0 x, f1 x, f2 x]) (v : Value) (fn : Nat) (cap : Array Value) (p : α → Bool) (xs : List α) (w : World) (hv : RowOf f w v xs) (hp : PredV w fn cap (fun x => .agg #[f0 x, f1 x, f2 x]) p xs)
  (ef : ∀ args w, (callFunc fn args).run Tryz.prog w = .ok (.enter fn args) w) :
  Calls Tryz.prog 135 #[v, .func (.func fn) #[] cap] w (IdxPost w (xs.any p)) := by
 obtain ⟨a, c, rfl, h1, h2, h3⟩ := hv.open3 hf
 clear hv
 go_enter Tryz.func135, Tryz.ntmps135
 go_wp2
 go_loopw [8] (fun i wr => ∃ k : Nat, k ≤ xs.length ∧ i = .int .i64 k ∧ Hid ((xs.take k).any p = false) ∧ Ext w wr) (fun i _ => xs.length - (intOf i).toNat)
 case atStart => exact ⟨0, Nat.zero_le _, rfl, by simp [Hid], Ext.refl _⟩
 case round =>
  obtain ⟨k, hk, rfl, hno, hx⟩ := hrel
  by_cases hlt : k < xs.length
  ·obtain ⟨b, o, x, rfl, hxk, c0, c1, c2⟩ := h3 k hlt
   have d0 := hx.cell c0
   have d1 := hx.cell c1
   have d2 := hx.cell c2
   have hpk := hp x (List.mem_of_getElem? hxk.out) wr hx
   clear c0 c1 c2 h3 hp hf
   go_wp2_with (refine Calls.mono hpk ?_; rintro e w' ⟨rfl, hx'⟩)
   ·go_ret
    exact ⟨⟨_, rfl, by rw [any_of_at p hxk.out (by assumption)]; simp⟩, hx.trans hx'⟩
   ·go_roundw
    case rel => exact ⟨k + 1, by omega, by go_num, by unfold Hid; rw [any_take_succ p hxk.out, hno.out]; simpa using ‹p x = false›, hx.trans hx'⟩
    case measure => simp [intOf]; omega
  ·go_wp2
   go_ret
   exact ⟨⟨_, rfl, by have := hno.out; rw [List.take_of_length_le (by omega)] at this; rw [this]; simp⟩, hx⟩
theorem containsFuncE {α : Type} {f : α → List Value} (f0 f1 f2 : α → Value) (hf : ∀ x, f x = [f0 x, f1 x, f2 x]) (v : Value) (fn : Nat) (cap : Array Value) (p : α → Bool) (xs : List α) (w : World) (hv : RowOf f w v xs) (hp : PredV w fn cap (fun x => .agg #[f0 x, f1 x, f2 x]) p xs)
  (ef : ∀ args w, (callFunc fn args).run Tryz.prog w = .ok (.enter fn args) w) :
  Calls Tryz.prog 111 #[v, .func (.func fn) #[] cap] w fun e w' => e = .returned (.bool (xs.any p)) ∧ Ext w w' := by
 go_enter Tryz.func111, Tryz.ntmps111
 go_wp2_with (go_at_call 135; refine (indexFuncE f0 f1 f2 hf v fn cap p xs _ hv hp ef).mono ?_; rintro e w' ⟨⟨n, rfl, hn⟩, hx⟩)
 go_ret
 exact ⟨by simp, hx⟩
set_option maxHeartbeats 400000 in
theorem indexFuncP {α : Type} {f : α → List Value} (f0 f1 : α → Value) (hf : ∀ x, f x = [f0 x, f1 x]) (v : Value) (fn : Nat) (cap : Array Value) (p : α → Bool) (xs : List α) (w : World) (hv : RowOf f w v xs) (hp : PredV w fn cap (fun x => .agg #[f0 x, f1 x]) p xs)
  (ef : ∀ args w, (callFunc fn args).run Tryz.prog w = .ok (.enter fn args) w) :
  Calls Tryz.prog 91 #[v, .func (.func fn) #[] cap] w (IdxPost w (xs.any p)) := by
 obtain ⟨a, c, rfl, h1, h2, h3⟩ := hv.open2 hf
 clear hv
 go_enter Tryz.func91, Tryz.ntmps91
 go_wp2
 go_loopw [8] (fun i wr => ∃ k : Nat, k ≤ xs.length ∧ i = .int .i64 k ∧ Hid ((xs.take k).any p = false) ∧ Ext w wr) (fun i _ => xs.length - (intOf i).toNat)
 case atStart => exact ⟨0, Nat.zero_le _, rfl, by simp [Hid], Ext.refl _⟩
 case round =>
  obtain ⟨k, hk, rfl, hno, hx⟩ := hrel
  by_cases hlt : k < xs.length
  ·obtain ⟨b, o, x, rfl, hxk, c0, c1⟩ := h3 k hlt
   have d0 := hx.cell c0
   have d1 := hx.cell c1
   have hpk := hp x (List.mem_of_getElem? hxk.out) wr hx
   clear c0 c1 h3 hp hf
   go_wp2_with (refine Calls.mono hpk ?_; rintro e w' ⟨rfl, hx'⟩)
   ·go_ret
    exact ⟨⟨_, rfl, by rw [any_of_at p hxk.out (by assumption)]; simp⟩, hx.trans hx'⟩
   ·go_roundw
    case rel => exact ⟨k + 1, by omega, by go_num, by unfold Hid; rw [any_take_succ p hxk.out, hno.out]; simpa using ‹p x = false›, hx.trans hx'⟩
    case measure => simp [intOf]; omega
  ·go_wp2
   go_ret
   exact ⟨⟨_, rfl, by have := hno.out; rw [List.take_of_length_le (by omega)] at this; rw [this]; simp⟩, hx⟩
theorem containsFuncP {α : Type} {f : α → List Value} (f0 f1 : α → Value) (hf : ∀ x, f x = [f0 x, f1 x]) (v : Value) (fn : Nat) (cap : Array Value) (p : α → Bool) (xs : List α) (w : World) (hv : RowOf f w v xs) (hp : PredV w fn cap (fun x => .agg #[f0 x, f1 x]) p xs)
  (ef : ∀ args w, (callFunc fn args).run Tryz.prog w = .ok (.enter fn args) w) :
  Calls Tryz.prog 62 #[v, .func (.func fn) #[] cap] w fun e w' => e = .returned (.bool (xs.any p)) ∧ Ext w w' := by
 go_enter Tryz.func62, Tryz.ntmps62
 go_wp2_with (go_at_call 91; refine (indexFuncP f0 f1 hf v fn cap p xs _ hv hp ef).mono ?_; rintro e w' ⟨⟨n, rfl, hn⟩, hx⟩)
 go_ret
 exact ⟨by simp, hx⟩
set_option maxHeartbeats 400000 in
theorem indexFuncS {α : Type} {f : α → List Value} (f0 f1 f2 : α → Value) (hf : ∀ x, f x = [f0 x, f1 x, f2 x]) (v : Value) (fn : Nat) (cap : Array Value) (p : α → Bool) (xs : List α) (w : World) (hv : RowOf f w v xs) (hp : PredV w fn cap (fun x => .agg #[f0 x, f1 x, f2 x]) p xs)
  (ef : ∀ args w, (callFunc fn args).run Tryz.prog w = .ok (.enter fn args) w) :
  Calls Tryz.prog 127 #[v, .func (.func fn) #[] cap] w (IdxPost w (xs.any p)) := by
 obtain ⟨a, c, rfl, h1, h2, h3⟩ := hv.open3 hf
 clear hv
 go_enter Tryz.func127, Tryz.ntmps127
 go_wp2
 go_loopw [8] (fun i wr => ∃ k : Nat, k ≤ xs.length ∧ i = .int .i64 k ∧ Hid ((xs.take k).any p = false) ∧ Ext w wr) (fun i _ => xs.length - (intOf i).toNat)
 case atStart => exact ⟨0, Nat.zero_le _, rfl, by simp [Hid], Ext.refl _⟩
 case round =>
  obtain ⟨k, hk, rfl, hno, hx⟩ := hrel
  by_cases hlt : k < xs.length
  ·obtain ⟨b, o, x, rfl, hxk, c0, c1, c2⟩ := h3 k hlt
   have d0 := hx.cell c0
   have d1 := hx.cell c1
   have d2 := hx.cell c2
   have hpk := hp x (List.mem_of_getElem? hxk.out) wr hx
   clear c0 c1 c2 h3 hp hf
   go_wp2_with (refine Calls.mono hpk ?_; rintro e w' ⟨rfl, hx'⟩)
   ·go_ret
    exact ⟨⟨_, rfl, by rw [any_of_at p hxk.out (by assumption)]; simp⟩, hx.trans hx'⟩
   ·go_roundw
    case rel => exact ⟨k + 1, by omega, by go_num, by unfold Hid; rw [any_take_succ p hxk.out, hno.out]; simpa using ‹p x = false›, hx.trans hx'⟩
    case measure => simp [intOf]; omega
  ·go_wp2
   go_ret
   exact ⟨⟨_, rfl, by have := hno.out; rw [List.take_of_length_le (by omega)] at this; rw [this]; simp⟩, hx⟩
theorem containsFuncS {α : Type} {f : α → List Value} (f0 f1 f2 : α → Value) (hf : ∀ x, f x = [f0 x, f1 x, f2 x]) (v : Value) (fn : Nat) (cap : Array Value) (p : α → Bool) (xs : List α) (w : World) (hv : RowOf f w v xs) (hp : PredV w fn cap (fun x => .agg #[f0 x, f1 x, f2 x]) p xs)
  (ef : ∀ args w, (callFunc fn args).run Tryz.prog w = .ok (.enter fn args) w) :
  Calls Tryz.prog 97 #[v, .func (.func fn) #[] cap] w fun e w' => e = .returned (.bool (xs.any p)) ∧ Ext w w' := by
 go_enter Tryz.func97, Tryz.ntmps97
 go_wp2_with (go_at_call 127; refine (indexFuncS f0 f1 f2 hf v fn cap p xs _ hv hp ef).mono ?_; rintro e w' ⟨⟨n, rfl, hn⟩, hx⟩)
 go_ret
 exact ⟨by simp, hx⟩
set_option maxHeartbeats 400000 in
theorem indexFuncL {α : Type} {f : α → List Value} (f0 f1 f2 f3 : α → Value) (hf : ∀ x, f x = [f0 x, f1 x, f2 x, f3 x]) (v : Value) (fn : Nat) (cap : Array Value) (p : α → Bool) (xs : List α) (w : World) (hv : RowOf f w v xs) (hp : PredV w fn cap (fun x => .agg #[f0 x, f1 x, f2 x, f3 x]) p xs)
  (ef : ∀ args w, (callFunc fn args).run Tryz.prog w = .ok (.enter fn args) w) :
  Calls Tryz.prog 124 #[v, .func (.func fn) #[] cap] w (IdxPost w (xs.any p)) := by
 obtain ⟨a, c, rfl, h1, h2, h3⟩ := hv.open4 hf
 clear hv
 go_enter Tryz.func124, Tryz.ntmps124
 go_wp2
 go_loopw [8] (fun i wr => ∃ k : Nat, k ≤ xs.length ∧ i = .int .i64 k ∧ Hid ((xs.take k).any p = false) ∧ Ext w wr) (fun i _ => xs.length - (intOf i).toNat)
 case atStart => exact ⟨0, Nat.zero_le _, rfl, by simp [Hid], Ext.refl _⟩
 case round =>
  obtain ⟨k, hk, rfl, hno, hx⟩ := hrel
  by_cases hlt : k < xs.length
  ·obtain ⟨b, o, x, rfl, hxk, c0, c1, c2, c3⟩ := h3 k hlt
   have d0 := hx.cell c0
   have d1 := hx.cell c1
   have d2 := hx.cell c2
   have d3 := hx.cell c3
   have hpk := hp x (List.mem_of_getElem? hxk.out) wr hx
   clear c0 c1 c2 c3 h3 hp hf
   go_wp2_with (refine Calls.mono hpk ?_; rintro e w' ⟨rfl, hx'⟩)
   ·go_ret
    exact ⟨⟨_, rfl, by rw [any_of_at p hxk.out (by assumption)]; simp⟩, hx.trans hx'⟩
   ·go_roundw
    case rel => exact ⟨k + 1, by omega, by go_num, by unfold Hid; rw [any_take_succ p hxk.out, hno.out]; simpa using ‹p x = false›, hx.trans hx'⟩
    case measure => simp [intOf]; omega
  ·go_wp2
   go_ret
   exact ⟨⟨_, rfl, by have := hno.out; rw [List.take_of_length_le (by omega)] at this; rw [this]; simp⟩, hx⟩
theorem containsFuncL {α : Type} {f : α → List Value} (f0 f1 f2 f3 : α → Value) (hf : ∀ x, f x = [f0 x, f1 x, f2 x, f3 x]) (v : Value) (fn : Nat) (cap : Array Value) (p : α → Bool) (xs : List α) (w : World) (hv : RowOf f w v xs) (hp : PredV w fn cap (fun x => .agg #[f0 x, f1 x, f2 x, f3 x]) p xs)
  (ef : ∀ args w, (callFunc fn args).run Tryz.prog w = .ok (.enter fn args) w) :
  Calls Tryz.prog 83 #[v, .func (.func fn) #[] cap] w fun e w' => e = .returned (.bool (xs.any p)) ∧ Ext w w' := by
 go_enter Tryz.func83, Tryz.ntmps83
 go_wp2_with (go_at_call 124; refine (indexFuncL f0 f1 f2 f3 hf v fn cap p xs _ hv hp ef).mono ?_; rintro e w' ⟨⟨n, rfl, hn⟩, hx⟩)
 go_ret
 exact ⟨by simp, hx⟩
set_option maxHeartbeats 400000 in
theorem indexFuncI {α : Type} {f : α → List Value} (f0 : α → Value) (hf : ∀ x, f x = [f0 x]) (v : Value) (fn : Nat) (cap : Array Value) (p : α → Bool) (xs : List α) (w : World) (hv : RowOf f w v xs) (hp : PredV w fn cap (fun x => f0 x) p xs)
  (ef : ∀ args w, (callFunc fn args).run Tryz.prog w = .ok (.enter fn args) w) :
  Calls Tryz.prog 126 #[v, .func (.func fn) #[] cap] w (IdxPost w (xs.any p)) := by
 obtain ⟨a, c, rfl, h1, h2, h3⟩ := hv.open1 hf
 clear hv
 go_enter Tryz.func126, Tryz.ntmps126
 go_wp2
 go_loopw [8] (fun i wr => ∃ k : Nat, k ≤ xs.length ∧ i = .int .i64 k ∧ Hid ((xs.take k).any p = false) ∧ Ext w wr) (fun i _ => xs.length - (intOf i).toNat)
 case atStart => exact ⟨0, Nat.zero_le _, rfl, by simp [Hid], Ext.refl _⟩
 case round =>
  obtain ⟨k, hk, rfl, hno, hx⟩ := hrel
  by_cases hlt : k < xs.length
  ·obtain ⟨b, o, x, rfl, hxk, c0⟩ := h3 k hlt
   have d0 := hx.cell c0
   have hpk := hp x (List.mem_of_getElem? hxk.out) wr hx
   clear c0 h3 hp hf
   go_wp2_with (refine Calls.mono hpk ?_; rintro e w' ⟨rfl, hx'⟩)
   ·go_ret
    exact ⟨⟨_, rfl, by rw [any_of_at p hxk.out (by assumption)]; simp⟩, hx.trans hx'⟩
   ·go_roundw
    case rel => exact ⟨k + 1, by omega, by go_num, by unfold Hid; rw [any_take_succ p hxk.out, hno.out]; simpa using ‹p x = false›, hx.trans hx'⟩
    case measure => simp [intOf]; omega
  ·go_wp2
   go_ret
   exact ⟨⟨_, rfl, by have := hno.out; rw [List.take_of_length_le (by omega)] at this; rw [this]; simp⟩, hx⟩
theorem containsFuncI {α : Type} {f : α → List Value} (f0 : α → Value) (hf : ∀ x, f x = [f0 x]) (v : Value) (fn : Nat) (cap : Array Value) (p : α → Bool) (xs : List α) (w : World) (hv : RowOf f w v xs) (hp : PredV w fn cap (fun x => f0 x) p xs)
  (ef : ∀ args w, (callFunc fn args).run Tryz.prog w = .ok (.enter fn args) w) :
  Calls Tryz.prog 95 #[v, .func (.func fn) #[] cap] w fun e w' => e = .returned (.bool (xs.any p)) ∧ Ext w w' := by
 go_enter Tryz.func95, Tryz.ntmps95
 go_wp2_with (go_at_call 126; refine (indexFuncI f0 hf v fn cap p xs _ hv hp ef).mono ?_; rintro e w' ⟨⟨n, rfl, hn⟩, hx⟩)
 go_ret
 exact ⟨by simp, hx⟩
theorem flat_ints : ∀ xs : List Int, xs.flatMap (fun x : Int => [Value.int .i64 x]) = xs.map (.int .i64)
 | [] => rfl
 | x :: l => by rw [List.flatMap_cons, flat_ints l]; rfl
theorem IntsAt.row {w : World} {v : Value} {xs : List Int} (h : IntsAt w v xs) : RowOf (fun x : Int => [Value.int .i64 x]) w v xs := by
 unfold RowOf; rw [flat_ints]; exact h
end Go.Proofs.YtokananogogjaaaGreatDoor
