/- The library's functions that the program calls, as the shelf's contracts ask for them: the numbers of functions and types, field by field. -/
import Derived.Shelf.SlLaysF
import Derived.Test.YtapkbonlijhmjaaGreatDoorProg
import Derived.Test.YtapkbonlijhmjaaGreatDoorLeafb
namespace Go.Proofs.YtapkbonlijhmjaaGreatDoor
open Go.Shelf

def Tryz.sortRows_ren : Go.Shelf.Ren := ⟨fun | 6 => 110 | 15 => 140 | 14 => 139 | 28 => 164 | 29 => 165 | 20 => 156 | 21 => 157 | 22 => 158 | 23 => 159 | 24 => 160 | 25 => 161 | 26 => 162 | 27 => 163 | 46 => 173 | 47 => 174 | 48 => 175 | 49 => 176 | 50 => 177 | 57 => 188 | n => n, fun | 22 => 23 | 24 => 22 | 25 => 95 | 3 => 3 | 39 => 184 | 0 => 0 | 53 => 215 | 55 => 217 | 4 => 4 | 46 => 208 | 45 => 207 | 50 => 212 | 5 => 5 | 9 => 9 | 66 => 223 | 70 => 227 | 76 => 239 | 77 => 240 | n => n, fun | n => n⟩
theorem Tryz.sortRows : Go.Proofs.SlLaysF.n6 Tryz.prog Tryz.sortRows_ren := {
  mixed := by kernel_rfl
  f6 := ⟨Tryz.f110.name, by decide, Tryz.func110.trans (congrArg some (by kernel_rfl))⟩
  f14 := ⟨Tryz.f139.name, by decide, Tryz.func139.trans (congrArg some (by kernel_rfl))⟩
  f15 := Tryz.func140.trans (congrArg some (by kernel_rfl))
  f20 := ⟨Tryz.f156.name, by decide, Tryz.func156.trans (congrArg some (by kernel_rfl))⟩
  f21 := ⟨Tryz.f157.name, by decide, Tryz.func157.trans (congrArg some (by kernel_rfl))⟩
  f22 := ⟨Tryz.f158.name, by decide, Tryz.func158.trans (congrArg some (by kernel_rfl))⟩
  f23 := ⟨Tryz.f159.name, by decide, Tryz.func159.trans (congrArg some (by kernel_rfl))⟩
  f24 := ⟨Tryz.f160.name, by decide, Tryz.func160.trans (congrArg some (by kernel_rfl))⟩
  f25 := ⟨Tryz.f161.name, by decide, Tryz.func161.trans (congrArg some (by kernel_rfl))⟩
  f26 := ⟨Tryz.f162.name, by decide, Tryz.func162.trans (congrArg some (by kernel_rfl))⟩
  f27 := ⟨Tryz.f163.name, by decide, Tryz.func163.trans (congrArg some (by kernel_rfl))⟩
  f28 := Tryz.func164.trans (congrArg some (by kernel_rfl))
  f29 := Tryz.func165.trans (congrArg some (by kernel_rfl))
  f46 := ⟨Tryz.f173.name, by decide, Tryz.func173.trans (congrArg some (by kernel_rfl))⟩
  f47 := Tryz.func174.trans (congrArg some (by kernel_rfl))
  f48 := Tryz.func175.trans (congrArg some (by kernel_rfl))
  f49 := ⟨Tryz.f176.name, by decide, Tryz.func176.trans (congrArg some (by kernel_rfl))⟩
  f50 := ⟨Tryz.f177.name, by decide, Tryz.func177.trans (congrArg some (by kernel_rfl))⟩
  f57 := ⟨Tryz.f188.name, by decide, Tryz.func188.trans (congrArg some (by kernel_rfl))⟩
  t0 := Tryz.underlying0
  a0 := Tryz.isAgg0
  z0 := Tryz.sizeOf0
  v0 := Tryz.zeroValue0
  t3 := Tryz.underlying3
  a3 := Tryz.isAgg3
  z3 := Tryz.sizeOf3
  v3 := Tryz.zeroValue3
  t4 := Tryz.underlying4
  a4 := Tryz.isAgg4
  z4 := Tryz.sizeOf4
  v4 := Tryz.zeroValue4
  t5 := Tryz.underlying5
  a5 := Tryz.isAgg5
  z5 := Tryz.sizeOf5
  v5 := Tryz.zeroValue5
  t9 := Tryz.underlying9
  a9 := Tryz.isAgg9
  z9 := Tryz.sizeOf9
  v9 := Tryz.zeroValue9
  t22 := Tryz.underlying23
  a22 := Tryz.isAgg23
  z22 := Tryz.sizeOf23
  v22 := Tryz.zeroValue23
  a24 := Tryz.isAgg22
  z24 := Tryz.sizeOf22
  t25 := Tryz.underlying95
  a25 := Tryz.isAgg95
  z25 := Tryz.sizeOf95
  v25 := Tryz.zeroValue95
  t39 := Tryz.underlying184
  a39 := Tryz.isAgg184
  z39 := Tryz.sizeOf184
  v39 := Tryz.zeroValue184
  t45 := Tryz.underlying207
  a45 := Tryz.isAgg207
  z45 := Tryz.sizeOf207
  v45 := Tryz.zeroValue207
  t46 := Tryz.underlying208
  a46 := Tryz.isAgg208
  z46 := Tryz.sizeOf208
  v46 := Tryz.zeroValue208
  t50 := Tryz.underlying212
  a50 := Tryz.isAgg212
  z50 := Tryz.sizeOf212
  v50 := Tryz.zeroValue212
  t53 := Tryz.underlying215
  a53 := Tryz.isAgg215
  z53 := Tryz.sizeOf215
  v53 := Tryz.zeroValue215
  t55 := Tryz.underlying217
  a55 := Tryz.isAgg217
  z55 := Tryz.sizeOf217
  v55 := Tryz.zeroValue217
  t66 := Tryz.underlying223
  a66 := Tryz.isAgg223
  z66 := Tryz.sizeOf223
  v66 := Tryz.zeroValue223
  t70 := Tryz.underlying227
  a70 := Tryz.isAgg227
  z70 := Tryz.sizeOf227
  v70 := Tryz.zeroValue227
  t76 := Tryz.underlying239
  a76 := Tryz.isAgg239
  z76 := Tryz.sizeOf239
  v76 := Tryz.zeroValue239
  t77 := Tryz.underlying240
  a77 := Tryz.isAgg240
  z77 := Tryz.sizeOf240
  v77 := Tryz.zeroValue240 }

end Go.Proofs.YtapkbonlijhmjaaGreatDoor

/- What the functions of the layer card compute of roads, in plain Lean: no program in sight. -/
namespace Go.Proofs.YtapkbonlijhmjaaGreatDoor

/-! ### Roads -/
structure Roads where
  loads : List Int
  bears : Int
  far : List (List Int)
def bad1000 (x : Int) : Bool := !inB x 0 1000
def badRow (n : Nat) (l : List Int) : Bool := decide (l.length ≠ n + 1) || l.any bad1000
def isRoadsB (c : Roads) : Bool :=
  inB c.loads.length 1 5 && inB c.bears 0 1000 && !c.loads.any bad1000 && decide (c.far.length = c.loads.length + 1) && !c.far.any (badRow c.loads.length)
structure RoadsB (c : Roads) : Prop where
  n1 : 1 ≤ c.loads.length
  n2 : c.loads.length ≤ 5
  b1 : 0 ≤ c.bears
  b2 : c.bears ≤ 1000
  l : ∀ x, x ∈ c.loads → 0 ≤ x ∧ x ≤ 1000
  f : c.far.length = c.loads.length + 1
  fl : ∀ l, l ∈ c.far → l.length = c.loads.length + 1
  fx : ∀ l, l ∈ c.far → ∀ x, x ∈ l → 0 ≤ x ∧ x ≤ 1000
theorem any_bad {l : List Int} (h : l.any bad1000 = false) : ∀ x, x ∈ l → 0 ≤ x ∧ x ≤ 1000 := by
  intro x hx
  simp only [List.any_eq_false] at h
  have := h x hx
  simpa [bad1000, inB] using this
theorem roadsB_of {c : Roads} (h : isRoadsB c = true) : RoadsB c := by
  simp only [isRoadsB, Bool.and_eq_true, inB_iff, decide_eq_true_eq, Bool.not_eq_true'] at h
  obtain ⟨⟨⟨⟨⟨a, a'⟩, b, b'⟩, d⟩, e⟩, f⟩ := h
  have hrow : ∀ l, l ∈ c.far → badRow c.loads.length l = false := fun l hl => by
    simp only [List.any_eq_false] at f
    simpa using f l hl
  refine ⟨by omega, by omega, b, b', any_bad d, e, fun l hl => ?_, fun l hl => ?_⟩
  · have := hrow l hl
    simp [badRow] at this
    exact this.1
  · have := hrow l hl
    simp only [badRow, Bool.or_eq_false_iff] at this
    exact any_bad this.2
def isStopB (c : Roads) (n : Int) : Bool := inB n 1 c.loads.length
/-- The loads of some houses, together. -/
def loadOf (c : Roads) (l : List Int) : Int := (l.map fun n => c.loads.getD (n - 1).toNat 0).sum
def farOf (c : Roads) (i j : Int) : Int := (c.far.getD i.toNat []).getD j.toNat 0
/-- How long a tour is that goes on from at. -/
def goOf (c : Roads) : Int → List Int → Int
  | at_, [] => farOf c at_ 0
  | at_, n :: l => farOf c at_ n + goOf c n l
def lengthOf (c : Roads) (l : List Int) : Int := goOf c 0 l

end Go.Proofs.YtapkbonlijhmjaaGreatDoor

/- Roads: how they lie in memory, and the contracts of the functions that look at them. -/
namespace Go.Proofs.YtapkbonlijhmjaaGreatDoor
open Go.RowKit

/-- A slice of slices of integers. -/
def RowsAt (w : World) (v : Value) (xss : List (List Int)) : Prop :=
  ∃ vs : List Value, vs.length = xss.length ∧ RowAt w v xss.length vs ∧ ∀ (i : Nat) (x : Value) (xs : List Int), vs[i]? = some x → xss[i]? = some xs → IntsAt w x xs
theorem RowsAt.ext {w w' : World} {v : Value} {xss : List (List Int)} (h : RowsAt w v xss) (k : Ext w w') : RowsAt w' v xss := by
  obtain ⟨vs, h1, h2, h3⟩ := h
  exact ⟨vs, h1, h2.ext k, fun i x xs hx hxs => (h3 i x xs hx hxs).ext k⟩
theorem RowsAt.open {w : World} {v : Value} {xss : List (List Int)} (h : RowsAt w v xss) : ∃ a c, v = .slice a xss.length c ∧ xss.length ≤ c ∧ c ≤ 9223372036854775807 ∧ ∀ i, i < xss.length → ∃ b o x xs, a = some ⟨b, o, none⟩ ∧ Hid (xss[i]? = some xs) ∧
    w.cell? ⟨b, o + i, none⟩ = some x ∧ IntsAt w x xs := by
  obtain ⟨vs, hl, ⟨a, c, hv, h1, h2, _, h3⟩, h4⟩ := h
  refine ⟨a, c, hv, h1, h2, fun i hi => ?_⟩
  obtain ⟨b, o, ha, hc⟩ := h3 i vs[i] (by simp)
  exact ⟨b, o, vs[i], xss[i], ha, (by simp [Hid, hi]), hc, h4 i _ _ (by simp) (by simp [hi])⟩
theorem RowsAt.nil (w : World) : RowsAt w (.slice none 0 0) [] := ⟨[], rfl, RowAt.nil w, fun i x xs h => by simp at h⟩

def RoadsAt (w : World) (v : Value) (c : Roads) : Prop := ∃ lv fv, v = .agg #[lv, .int .i64 c.bears, fv] ∧ IntsAt w lv c.loads ∧ RowsAt w fv c.far
theorem RoadsAt.ext {w w' : World} {v : Value} {c : Roads} (h : RoadsAt w v c) (k : Ext w w') : RoadsAt w' v c := by
  obtain ⟨lv, fv, h1, h2, h3⟩ := h
  exact ⟨lv, fv, h1, h2.ext k, h3.ext k⟩

/-- A predicate on lists that a function value answers, whatever has been laid since. -/
def PredR (w : World) (f : Nat) (cap : Array Value) (p : List Int → Bool) (xss : List (List Int)) : Prop :=
  ∀ xs, xs ∈ xss → ∀ x w1, Ext w w1 → IntsAt w1 x xs → Calls Tryz.prog f (#[x] ++ cap) w1 fun e w' => e = .returned (.bool (p xs)) ∧ Ext w1 w'

set_option maxHeartbeats 400000 in
theorem indexFuncR (v : Value) (f : Nat) (cap : Array Value) (p : List Int → Bool) (xss : List (List Int)) (w : World) (hv : RowsAt w v xss) (hp : PredR w f cap p xss)
    (ef : ∀ args w, (callFunc f args).run Tryz.prog w = .ok (.enter f args) w) :
    Calls Tryz.prog 116 #[v, .func (.func f) #[] cap] w (IdxPost w (xss.any p)) := by
  obtain ⟨a, c, rfl, h1, h2, h3⟩ := hv.open
  go_enter Tryz.func116, Tryz.ntmps116
  go_wp2
  go_loopw [8] (fun i wr => ∃ k : Nat, k ≤ xss.length ∧ i = .int .i64 k ∧ Hid ((xss.take k).any p = false) ∧ Ext w wr) (fun i _ => xss.length - (intOf i).toNat)
  case atStart => exact ⟨0, Nat.zero_le _, rfl, by simp [Hid], Ext.refl _⟩
  case round =>
    obtain ⟨k, hk, rfl, hno, hx⟩ := hrel
    by_cases hlt : k < xss.length
    · obtain ⟨b, o, x, xs, rfl, hxk, hc, hxs⟩ := h3 k hlt
      have hc' := hx.cell hc
      have hpk := hp xs (List.mem_of_getElem? hxk.out) x wr hx (hxs.ext hx)
      clear hc h3
      go_wp2_with (refine Calls.mono hpk ?_; rintro e w' ⟨rfl, hx'⟩)
      · go_ret
        exact ⟨⟨_, rfl, by rw [any_of_at p hxk.out (by assumption)]; simp⟩, hx.trans hx'⟩
      · go_roundw
        case rel => exact ⟨k + 1, by omega, by go_num, by unfold Hid; rw [any_take_succ p hxk.out, hno.out]; simpa using ‹p xs = false›, hx.trans hx'⟩
        case measure => simp [intOf]; omega
    · go_wp2
      go_ret
      exact ⟨⟨_, rfl, by have := hno.out; rw [List.take_of_length_le (by omega)] at this; rw [this]; simp⟩, hx⟩

theorem containsFuncR (v : Value) (f : Nat) (cap : Array Value) (p : List Int → Bool) (xss : List (List Int)) (w : World) (hv : RowsAt w v xss) (hp : PredR w f cap p xss)
    (ef : ∀ args w, (callFunc f args).run Tryz.prog w = .ok (.enter f args) w) :
    Calls Tryz.prog 70 #[v, .func (.func f) #[] cap] w fun e w' => e = .returned (.bool (xss.any p)) ∧ Ext w w' := by
  go_enter Tryz.func70, Tryz.ntmps70
  go_wp2_with (go_at_call 116; refine (indexFuncR v f cap p xss _ hv hp ef).mono ?_; rintro e w' ⟨⟨n, rfl, hn⟩, hx⟩)
  go_ret
  exact ⟨by simp, hx⟩

theorem enters_isRoads1 : ∀ args w, (callFunc 105 args).run Tryz.prog w = .ok (.enter 105 args) w := enters_of Tryz.func105 (by kernel_rfl) rfl
theorem enters_isRoads2 : ∀ args w, (callFunc 106 args).run Tryz.prog w = .ok (.enter 106 args) w := enters_of Tryz.func106 (by kernel_rfl) rfl
theorem enters_isRoads21 : ∀ args w, (callFunc 107 args).run Tryz.prog w = .ok (.enter 107 args) w := enters_of Tryz.func107 (by kernel_rfl) rfl
theorem contains_isRoads1 (v : Value) (l : List Int) (w : World) (hv : IntsAt w v l) :
    Calls Tryz.prog 72 #[v, .func (.func 105) #[] #[]] w fun e w' => e = .returned (.bool (l.any bad1000)) ∧ Ext w w' :=
  containsFuncI v _ _ _ l w hv (fun x _ w1 _ => (isRoads1_any x w1).mono (by rintro e w' ⟨rfl, rfl⟩; exact ⟨rfl, Ext.refl _⟩)) enters_isRoads1
theorem contains_isRoads21 (v : Value) (l : List Int) (w : World) (hv : IntsAt w v l) :
    Calls Tryz.prog 72 #[v, .func (.func 107) #[] #[]] w fun e w' => e = .returned (.bool (l.any bad1000)) ∧ Ext w w' :=
  containsFuncI v _ _ _ l w hv (fun x _ w1 _ => (isRoads21_any x w1).mono (by rintro e w' ⟨rfl, rfl⟩; exact ⟨rfl, Ext.refl _⟩)) enters_isRoads21

theorem isRoads2_any (v : Value) (l : List Int) (b n : Nat) (w : World) (hn : n ≤ 1000000) (hv : IntsAt w v l) (hc : w.cell? ⟨b, 0, none⟩ = some (.int .i64 n)) :
    Calls Tryz.prog 106 #[v, .pointer (some ⟨b, 0, none⟩)] w fun e w' => e = .returned (.bool (badRow n l)) ∧ Ext w w' := by
  obtain ⟨a, c, rfl, h1, h2, _⟩ := hv.open
  by_cases hl : l.length = n + 1
  · have t1 : ((l.length : Int) != (n : Int) + 1) = false := by rw [bne_eq_false_iff_eq]; omega
    have hb : badRow n l = l.any bad1000 := by simp [badRow, hl]
    rw [hb]
    have HL := Lib.hid hl
    clear hl hb
    go_enter Tryz.func106, Tryz.ntmps106
    go_wp2_with (go_at_call 72; refine (contains_isRoads21 _ l _ hv).mono ?_; rintro e w' ⟨rfl, hx⟩)
    go_ret
    exact ⟨rfl, hx⟩
  · have t1 : ((l.length : Int) != (n : Int) + 1) = true := by rw [bne_iff_ne]; omega
    have hb : badRow n l = true := by simp [badRow, hl]
    rw [hb]
    clear hl hb
    go_enter Tryz.func106, Tryz.ntmps106
    go_wp2
    go_ret
    exact ⟨rfl, Ext.refl _⟩
end Go.Proofs.YtapkbonlijhmjaaGreatDoor
