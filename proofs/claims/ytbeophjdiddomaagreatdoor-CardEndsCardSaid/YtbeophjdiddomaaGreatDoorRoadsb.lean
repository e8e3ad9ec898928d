/- The library's functions that the program calls, as the shelf's contracts ask for them: the numbers of functions and types, field by field. -/
import Derived.Shelf.SlLaysF
import Derived.Test.YtbeophjdiddomaaGreatDoorProg
import Derived.Test.YtbeophjdiddomaaGreatDoorLeafb
namespace Go.Proofs.YtbeophjdiddomaaGreatDoor
open Go.Shelf

def Tryz.sortRows_ren : Go.Shelf.Ren := ⟨fun | 6 => 103 | 15 => 129 | 14 => 128 | 28 => 146 | 29 => 147 | 20 => 138 | 21 => 139 | 22 => 140 | 23 => 141 | 24 => 142 | 25 => 143 | 26 => 144 | 27 => 145 | 46 => 158 | 47 => 159 | 48 => 160 | 49 => 161 | 50 => 162 | 57 => 172 | n => n, fun | 22 => 67 | 24 => 33 | 25 => 119 | 3 => 3 | 39 => 191 | 0 => 0 | 53 => 206 | 55 => 208 | 4 => 4 | 46 => 199 | 45 => 198 | 50 => 203 | 5 => 5 | 9 => 9 | 66 => 219 | 70 => 223 | 76 => 229 | 77 => 230 | n => n, fun | n => n⟩
theorem Tryz.sortRows : Go.Proofs.SlLaysF.n6 Tryz.prog Tryz.sortRows_ren := {
  mixed := by kernel_rfl
  f6 := ⟨Tryz.f103.name, by decide, Tryz.func103.trans (congrArg some (by kernel_rfl))⟩
  f14 := ⟨Tryz.f128.name, by decide, Tryz.func128.trans (congrArg some (by kernel_rfl))⟩
  f15 := Tryz.func129.trans (congrArg some (by kernel_rfl))
  f20 := ⟨Tryz.f138.name, by decide, Tryz.func138.trans (congrArg some (by kernel_rfl))⟩
  f21 := ⟨Tryz.f139.name, by decide, Tryz.func139.trans (congrArg some (by kernel_rfl))⟩
  f22 := ⟨Tryz.f140.name, by decide, Tryz.func140.trans (congrArg some (by kernel_rfl))⟩
  f23 := ⟨Tryz.f141.name, by decide, Tryz.func141.trans (congrArg some (by kernel_rfl))⟩
  f24 := ⟨Tryz.f142.name, by decide, Tryz.func142.trans (congrArg some (by kernel_rfl))⟩
  f25 := ⟨Tryz.f143.name, by decide, Tryz.func143.trans (congrArg some (by kernel_rfl))⟩
  f26 := ⟨Tryz.f144.name, by decide, Tryz.func144.trans (congrArg some (by kernel_rfl))⟩
  f27 := ⟨Tryz.f145.name, by decide, Tryz.func145.trans (congrArg some (by kernel_rfl))⟩
  f28 := Tryz.func146.trans (congrArg some (by kernel_rfl))
  f29 := Tryz.func147.trans (congrArg some (by kernel_rfl))
  f46 := ⟨Tryz.f158.name, by decide, Tryz.func158.trans (congrArg some (by kernel_rfl))⟩
  f47 := Tryz.func159.trans (congrArg some (by kernel_rfl))
  f48 := Tryz.func160.trans (congrArg some (by kernel_rfl))
  f49 := ⟨Tryz.f161.name, by decide, Tryz.func161.trans (congrArg some (by kernel_rfl))⟩
  f50 := ⟨Tryz.f162.name, by decide, Tryz.func162.trans (congrArg some (by kernel_rfl))⟩
  f57 := ⟨Tryz.f172.name, by decide, Tryz.func172.trans (congrArg some (by kernel_rfl))⟩
  t0 := Tryz.underlying0
  a0 := Tryz.isAgg0
  z0 := Tryz.sizeOf0
  v0 := Tryz.zeroValue0
  t3 := Tryz.underlying3
  a3 := Tryz.isAgg3
  z3 := Tryz.sizeOf3
  v3 := Tryz.zeroValue3
  t4 := Tryz.underlying4
  a4 := Tryz.isAgg4
  z4 := Tryz.sizeOf4
  v4 := Tryz.zeroValue4
  t5 := Tryz.underlying5
  a5 := Tryz.isAgg5
  z5 := Tryz.sizeOf5
  v5 := Tryz.zeroValue5
  t9 := Tryz.underlying9
  a9 := Tryz.isAgg9
  z9 := Tryz.sizeOf9
  v9 := Tryz.zeroValue9
  t22 := Tryz.underlying67
  a22 := Tryz.isAgg67
  z22 := Tryz.sizeOf67
  v22 := Tryz.zeroValue67
  a24 := Tryz.isAgg33
  z24 := Tryz.sizeOf33
  t25 := Tryz.underlying119
  a25 := Tryz.isAgg119
  z25 := Tryz.sizeOf119
  v25 := Tryz.zeroValue119
  t39 := Tryz.underlying191
  a39 := Tryz.isAgg191
  z39 := Tryz.sizeOf191
  v39 := Tryz.zeroValue191
  t45 := Tryz.underlying198
  a45 := Tryz.isAgg198
  z45 := Tryz.sizeOf198
  v45 := Tryz.zeroValue198
  t46 := Tryz.underlying199
  a46 := Tryz.isAgg199
  z46 := Tryz.sizeOf199
  v46 := Tryz.zeroValue199
  t50 := Tryz.underlying203
  a50 := Tryz.isAgg203
  z50 := Tryz.sizeOf203
  v50 := Tryz.zeroValue203
  t53 := Tryz.underlying206
  a53 := Tryz.isAgg206
  z53 := Tryz.sizeOf206
  v53 := Tryz.zeroValue206
  t55 := Tryz.underlying208
  a55 := Tryz.isAgg208
  z55 := Tryz.sizeOf208
  v55 := Tryz.zeroValue208
  t66 := Tryz.underlying219
  a66 := Tryz.isAgg219
  z66 := Tryz.sizeOf219
  v66 := Tryz.zeroValue219
  t70 := Tryz.underlying223
  a70 := Tryz.isAgg223
  z70 := Tryz.sizeOf223
  v70 := Tryz.zeroValue223
  t76 := Tryz.underlying229
  a76 := Tryz.isAgg229
  z76 := Tryz.sizeOf229
  v76 := Tryz.zeroValue229
  t77 := Tryz.underlying230
  a77 := Tryz.isAgg230
  z77 := Tryz.sizeOf230
  v77 := Tryz.zeroValue230 }

end Go.Proofs.YtbeophjdiddomaaGreatDoor

/- What the functions of the layer card compute of roads, in plain Lean: no program in sight. -/
namespace Go.Proofs.YtbeophjdiddomaaGreatDoor

/-! ### Roads -/
structure Roads where
  loads : List Int
  bears : Int
  far : List (List Int)
def bad1000 (x : Int) : Bool := !inB x 0 1000
def badRow (n : Nat) (l : List Int) : Bool := decide (l.length ≠ n + 1) || l.any bad1000
def isRoadsB (c : Roads) : Bool :=
  inB c.loads.length 1 5 && inB c.bears 0 1000 && !c.loads.any bad1000 && decide (c.far.length = c.loads.length + 1) && !c.far.any (badRow c.loads.length)
structure RoadsB (c : Roads) : Prop where
  n1 : 1 ≤ c.loads.length
  n2 : c.loads.length ≤ 5
  b1 : 0 ≤ c.bears
  b2 : c.bears ≤ 1000
  l : ∀ x, x ∈ c.loads → 0 ≤ x ∧ x ≤ 1000
  f : c.far.length = c.loads.length + 1
  fl : ∀ l, l ∈ c.far → l.length = c.loads.length + 1
  fx : ∀ l, l ∈ c.far → ∀ x, x ∈ l → 0 ≤ x ∧ x ≤ 1000
theorem any_bad {l : List Int} (h : l.any bad1000 = false) : ∀ x, x ∈ l → 0 ≤ x ∧ x ≤ 1000 := by
  intro x hx
  simp only [List.any_eq_false] at h
  have := h x hx
  simpa [bad1000, inB] using this
theorem roadsB_of {c : Roads} (h : isRoadsB c = true) : RoadsB c := by
  simp only [isRoadsB, Bool.and_eq_true, inB_iff, decide_eq_true_eq, Bool.not_eq_true'] at h
  obtain ⟨⟨⟨⟨⟨a, a'⟩, b, b'⟩, d⟩, e⟩, f⟩ := h
  have hrow : ∀ l, l ∈ c.far → badRow c.loads.length l = false := fun l hl => by
    simp only [List.any_eq_false] at f
    simpa using f l hl
  refine ⟨by omega, by omega, b, b', any_bad d, e, fun l hl => ?_, fun l hl => ?_⟩
  · have := hrow l hl
    simp [badRow] at this
    exact this.1
  · have := hrow l hl
    simp only [badRow, Bool.or_eq_false_iff] at this
    exact any_bad this.2
def isStopB (c : Roads) (n : Int) : Bool := inB n 1 c.loads.length
/-- The loads of some houses, together. -/
def loadOf (c : Roads) (l : List Int) : Int := (l.map fun n => c.loads.getD (n - 1).toNat 0).sum
def farOf (c : Roads) (i j : Int) : Int := (c.far.getD i.toNat []).getD j.toNat 0
/-- How long a tour is that goes on from at. -/
def goOf (c : Roads) : Int → List Int → Int
  | at_, [] => farOf c at_ 0
  | at_, n :: l => farOf c at_ n + goOf c n l
def lengthOf (c : Roads) (l : List Int) : Int := goOf c 0 l

end Go.Proofs.YtbeophjdiddomaaGreatDoor

/- Roads: how they lie in memory, and the contracts of the functions that look at them. -/
namespace Go.Proofs.YtbeophjdiddomaaGreatDoor
open Go.RowKit

/-- A slice of slices of integers. -/
def RowsAt (w : World) (v : Value) (xss : List (List Int)) : Prop :=
  ∃ vs : List Value, vs.length = xss.length ∧ RowAt w v xss.length vs ∧ ∀ (i : Nat) (x : Value) (xs : List Int), vs[i]? = some x → xss[i]? = some xs → IntsAt w x xs
theorem RowsAt.ext {w w' : World} {v : Value} {xss : List (List Int)} (h : RowsAt w v xss) (k : Ext w w') : RowsAt w' v xss := by
  obtain ⟨vs, h1, h2, h3⟩ := h
  exact ⟨vs, h1, h2.ext k, fun i x xs hx hxs => (h3 i x xs hx hxs).ext k⟩
theorem RowsAt.open {w : World} {v : Value} {xss : List (List Int)} (h : RowsAt w v xss) : ∃ a c, v = .slice a xss.length c ∧ xss.length ≤ c ∧ c ≤ 9223372036854775807 ∧ ∀ i, i < xss.length → ∃ b o x xs, a = some ⟨b, o, none⟩ ∧ Hid (xss[i]? = some xs) ∧
    w.cell? ⟨b, o + i, none⟩ = some x ∧ IntsAt w x xs := by
  obtain ⟨vs, hl, ⟨a, c, hv, h1, h2, _, h3⟩, h4⟩ := h
  refine ⟨a, c, hv, h1, h2, fun i hi => ?_⟩
  obtain ⟨b, o, ha, hc⟩ := h3 i vs[i] (by simp)
  exact ⟨b, o, vs[i], xss[i], ha, (by simp [Hid, hi]), hc, h4 i _ _ (by simp) (by simp [hi])⟩
theorem RowsAt.nil (w : World) : RowsAt w (.slice none 0 0) [] := ⟨[], rfl, RowAt.nil w, fun i x xs h => by simp at h⟩

def RoadsAt (w : World) (v : Value) (c : Roads) : Prop := ∃ lv fv, v = .agg #[lv, .int .i64 c.bears, fv] ∧ IntsAt w lv c.loads ∧ RowsAt w fv c.far
theorem RoadsAt.ext {w w' : World} {v : Value} {c : Roads} (h : RoadsAt w v c) (k : Ext w w') : RoadsAt w' v c := by
  obtain ⟨lv, fv, h1, h2, h3⟩ := h
  exact ⟨lv, fv, h1, h2.ext k, h3.ext k⟩

/-- A predicate on lists that a function value answers, whatever has been laid since. -/
def PredR (w : World) (f : Nat) (cap : Array Value) (p : List Int → Bool) (xss : List (List Int)) : Prop :=
  ∀ xs, xs ∈ xss → ∀ x w1, Ext w w1 → IntsAt w1 x xs → Calls Tryz.prog f (#[x] ++ cap) w1 fun e w' => e = .returned (.bool (p xs)) ∧ Ext w1 w'

set_option maxHeartbeats 400000 in
theorem indexFuncR (v : Value) (f : Nat) (cap : Array Value) (p : List Int → Bool) (xss : List (List Int)) (w : World) (hv : RowsAt w v xss) (hp : PredR w f cap p xss)
    (ef : ∀ args w, (callFunc f args).run Tryz.prog w = .ok (.enter f args) w) :
    Calls Tryz.prog 119 #[v, .func (.func f) #[] cap] w (IdxPost w (xss.any p)) := by
  obtain ⟨a, c, rfl, h1, h2, h3⟩ := hv.open
  go_enter Tryz.func119, Tryz.ntmps119
  go_wp2
  go_loopw [8] (fun i wr => ∃ k : Nat, k ≤ xss.length ∧ i = .int .i64 k ∧ Hid ((xss.take k).any p = false) ∧ Ext w wr) (fun i _ => xss.length - (intOf i).toNat)
  case atStart => exact ⟨0, Nat.zero_le _, rfl, by simp [Hid], Ext.refl _⟩
  case round =>
    obtain ⟨k, hk, rfl, hno, hx⟩ := hrel
    by_cases hlt : k < xss.length
    · obtain ⟨b, o, x, xs, rfl, hxk, hc, hxs⟩ := h3 k hlt
      have hc' := hx.cell hc
      have hpk := hp xs (List.mem_of_getElem? hxk.out) x wr hx (hxs.ext hx)
      clear hc h3
      go_wp2_with (refine Calls.mono hpk ?_; rintro e w' ⟨rfl, hx'⟩)
      · go_ret
        exact ⟨⟨_, rfl, by rw [any_of_at p hxk.out (by assumption)]; simp⟩, hx.trans hx'⟩
      · go_roundw
        case rel => exact ⟨k + 1, by omega, by go_num, by unfold Hid; rw [any_take_succ p hxk.out, hno.out]; simpa using ‹p xs = false›, hx.trans hx'⟩
        case measure => simp [intOf]; omega
    · go_wp2
      go_ret
      exact ⟨⟨_, rfl, by have := hno.out; rw [List.take_of_length_le (by omega)] at this; rw [this]; simp⟩, hx⟩

theorem containsFuncR (v : Value) (f : Nat) (cap : Array Value) (p : List Int → Bool) (xss : List (List Int)) (w : World) (hv : RowsAt w v xss) (hp : PredR w f cap p xss)
    (ef : ∀ args w, (callFunc f args).run Tryz.prog w = .ok (.enter f args) w) :
    Calls Tryz.prog 94 #[v, .func (.func f) #[] cap] w fun e w' => e = .returned (.bool (xss.any p)) ∧ Ext w w' := by
  go_enter Tryz.func94, Tryz.ntmps94
  go_wp2_with (go_at_call 119; refine (indexFuncR v f cap p xss _ hv hp ef).mono ?_; rintro e w' ⟨⟨n, rfl, hn⟩, hx⟩)
  go_ret
  exact ⟨by simp, hx⟩

theorem enters_isRoads1 : ∀ args w, (callFunc 93 args).run Tryz.prog w = .ok (.enter 93 args) w := enters_of Tryz.func93 (by kernel_rfl) rfl
theorem enters_isRoads2 : ∀ args w, (callFunc 95 args).run Tryz.prog w = .ok (.enter 95 args) w := enters_of Tryz.func95 (by kernel_rfl) rfl
theorem enters_isRoads21 : ∀ args w, (callFunc 96 args).run Tryz.prog w = .ok (.enter 96 args) w := enters_of Tryz.func96 (by kernel_rfl) rfl
theorem contains_isRoads1 (v : Value) (l : List Int) (w : World) (hv : IntsAt w v l) :
    Calls Tryz.prog 57 #[v, .func (.func 93) #[] #[]] w fun e w' => e = .returned (.bool (l.any bad1000)) ∧ Ext w w' :=
  containsFuncI v _ _ _ l w hv (fun x _ w1 _ => (isRoads1_any x w1).mono (by rintro e w' ⟨rfl, rfl⟩; exact ⟨rfl, Ext.refl _⟩)) enters_isRoads1
theorem contains_isRoads21 (v : Value) (l : List Int) (w : World) (hv : IntsAt w v l) :
    Calls Tryz.prog 57 #[v, .func (.func 96) #[] #[]] w fun e w' => e = .returned (.bool (l.any bad1000)) ∧ Ext w w' :=
  containsFuncI v _ _ _ l w hv (fun x _ w1 _ => (isRoads21_any x w1).mono (by rintro e w' ⟨rfl, rfl⟩; exact ⟨rfl, Ext.refl _⟩)) enters_isRoads21

theorem isRoads2_any (v : Value) (l : List Int) (b n : Nat) (w : World) (hn : n ≤ 1000000) (hv : IntsAt w v l) (hc : w.cell? ⟨b, 0, none⟩ = some (.int .i64 n)) :
    Calls Tryz.prog 95 #[v, .pointer (some ⟨b, 0, none⟩)] w fun e w' => e = .returned (.bool (badRow n l)) ∧ Ext w w' := by
  obtain ⟨a, c, rfl, h1, h2, _⟩ := hv.open
  by_cases hl : l.length = n + 1
  · have t1 : ((l.length : Int) != (n : Int) + 1) = false := by rw [bne_eq_false_iff_eq]; omega
    have hb : badRow n l = l.any bad1000 := by simp [badRow, hl]
    rw [hb]
    have HL := Lib.hid hl
    clear hl hb
    go_enter Tryz.func95, Tryz.ntmps95
    go_wp2_with (go_at_call 57; refine (contains_isRoads21 _ l _ hv).mono ?_; rintro e w' ⟨rfl, hx⟩)
    go_ret
    exact ⟨rfl, hx⟩
  · have t1 : ((l.length : Int) != (n : Int) + 1) = true := by rw [bne_iff_ne]; omega
    have hb : badRow n l = true := by simp [badRow, hl]
    rw [hb]
    clear hl hb
    go_enter Tryz.func95, Tryz.ntmps95
    go_wp2
    go_ret
    exact ⟨rfl, Ext.refl _⟩
end Go.Proofs.YtbeophjdiddomaaGreatDoor

/- The contracts of isRoads, isStop, loads and length. -/
namespace Go.Proofs.YtbeophjdiddomaaGreatDoor
open Go.RowKit

set_option maxRecDepth 100000 in
set_option maxHeartbeats 1000000 in
theorem isRoads_any (v : Value) (c : Roads) (w : World) (hc : RoadsAt w v c) :
    Calls Tryz.prog 61 #[v] w fun e w' => e = .returned (.bool (isRoadsB c)) ∧ Ext w w' := by
  obtain ⟨lv, fv, rfl, hl, hf⟩ := hc
  by_cases h5 : inB c.loads.length 1 5 = true
  · obtain ⟨h51, h52⟩ := inB_iff.1 h5
    have pr : ∀ W, Ext w W → W.cell? ⟨w.heap.size + 1, 0, none⟩ = some (.int .i64 (c.loads.length : Nat)) → PredR W 95 #[.pointer (some ⟨w.heap.size + 1, 0, none⟩)] (badRow c.loads.length) c.far :=
      fun W _ hW xs _ x w1 hx hxs => isRoads2_any x xs _ c.loads.length w1 (by omega) hxs (hx.cell hW)
    have q1 := fun w1 (hx : Ext w w1) => contains_isRoads1 lv c.loads w1 (hl.ext hx)
    have q2 := fun w1 (hx : Ext w w1) hW => containsFuncR fv _ _ _ c.far w1 (hf.ext hx) (pr w1 hx hW) enters_isRoads2
    obtain ⟨a, k, rfl, h1, h2, _⟩ := hl.open
    obtain ⟨a', k', rfl, h1', h2', _⟩ := hf.open
    have Q1 := Lib.hid q1
    have Q2 := Lib.hid q2
    clear q1 q2 pr hl hf
    by_cases e : c.far.length = c.loads.length + 1
    · have t1 : ((c.far.length : Int) == (c.loads.length : Int) + 1) = true := by rw [beq_iff_eq]; omega
      have E := Lib.hid e
      clear e
      go_enter Tryz.func61, Tryz.ntmps61
      go_wp2_with (first | (go_at_call 45; refine (in_any _ _ _ _).mono ?_; rintro e w' ⟨rfl, rfl⟩) | (go_at_call 57; refine (Q1.out _ (((Ext.refl w).alloc _).alloc _)).mono ?_; rintro e w1 ⟨rfl, hx1⟩; obtain ⟨hc1, hf1⟩ := hx1.cells; have hW1 := hx1.cell (a := ⟨w.heap.size + 1, 0, none⟩) (v := .int .i64 (c.loads.length : Nat)) (by simp)) | (go_at_call 94; refine (Q2.out _ (Ext.trans (((Ext.refl w).alloc _).alloc _) hx1) hW1).mono ?_; rintro e w2 ⟨rfl, hx2⟩))
      all_goals go_ret
      all_goals refine ⟨?_, by first | exact (((Ext.refl w).alloc _).alloc _) | exact Ext.trans (((Ext.refl w).alloc _).alloc _) ‹_› | exact Ext.trans (Ext.trans (((Ext.refl w).alloc _).alloc _) hx1) hx2⟩
      all_goals have E' := E.out
      all_goals first | (simp [isRoadsB, *]; done) | (simp [isRoadsB, *]; intros; omega)
    · have t1 : ((c.far.length : Int) == (c.loads.length : Int) + 1) = false := by rw [beq_eq_false_iff_ne]; omega
      have hb : isRoadsB c = false := by simp [isRoadsB, e]
      rw [hb]
      clear e hb
      go_enter Tryz.func61, Tryz.ntmps61
      go_wp2_with (first | (go_at_call 45; refine (in_any _ _ _ _).mono ?_; rintro e w' ⟨rfl, rfl⟩) | (go_at_call 57; refine (Q1.out _ (((Ext.refl w).alloc _).alloc _)).mono ?_; rintro e w1 ⟨rfl, hx1⟩; obtain ⟨hc1, hf1⟩ := hx1.cells; have hW1 := hx1.cell (a := ⟨w.heap.size + 1, 0, none⟩) (v := .int .i64 (c.loads.length : Nat)) (by simp)) | (go_at_call 94; refine (Q2.out _ (Ext.trans (((Ext.refl w).alloc _).alloc _) hx1) hW1).mono ?_; rintro e w2 ⟨rfl, hx2⟩))
      all_goals go_ret
      all_goals refine ⟨?_, by first | exact (((Ext.refl w).alloc _).alloc _) | exact Ext.trans (((Ext.refl w).alloc _).alloc _) ‹_› | exact Ext.trans (Ext.trans (((Ext.refl w).alloc _).alloc _) hx1) hx2⟩
      all_goals first | rfl | (simp [*]; done)
  · have h5' : inB c.loads.length 1 5 = false := by simpa using h5
    have hb : isRoadsB c = false := by simp [isRoadsB, h5']
    rw [hb]
    obtain ⟨a, k, rfl, h1, h2, _⟩ := hl.open
    obtain ⟨a', k', rfl, h1', h2', _⟩ := hf.open
    clear h5 hb hl hf
    go_enter Tryz.func61, Tryz.ntmps61
    go_wp2_with (go_at_call 45; refine (in_any _ _ _ _).mono ?_; rintro e w' ⟨rfl, rfl⟩)
    go_ret
    exact ⟨rfl, ((Ext.refl w).alloc _).alloc _⟩

theorem isStop_any (v : Value) (c : Roads) (n : Int) (w : World) (hc : RoadsAt w v c) :
    Calls Tryz.prog 62 #[v, .int .i64 n] w fun e w' => e = .returned (.bool (isStopB c n)) ∧ Ext w w' := by
  obtain ⟨lv, fv, rfl, hl, _⟩ := hc
  obtain ⟨a, k, rfl, h1, h2, _⟩ := hl.open
  clear hl
  go_enter Tryz.func62, Tryz.ntmps62
  go_wp2_with (go_at_call 45; refine (in_any _ _ _ _).mono ?_; rintro e w' ⟨rfl, rfl⟩)
  go_ret
  exact ⟨rfl, (Ext.refl w).alloc _⟩

/-! ### loads -/
theorem sum_bound {l : List Int} {b : Int} (h : ∀ x, x ∈ l → 0 ≤ x ∧ x ≤ b) : 0 ≤ l.sum ∧ l.sum ≤ l.length * b := by
  induction l with
  | nil => simp
  | cons x l ih =>
    have h1 := h x (by simp)
    have h2 := ih (fun y hy => h y (by simp [hy]))
    simp only [List.sum_cons, List.length_cons]
    push_cast
    rw [Int.add_mul]
    omega
theorem loadAt {c : Roads} (hb : RoadsB c) {m : Nat} (hn : m < c.loads.length) : ∃ x, c.loads[m]? = some x ∧ c.loads.getD ((m : Int) + 1 - 1).toNat 0 = x ∧ 0 ≤ x ∧ x ≤ 1000 := by
  refine ⟨c.loads[m], by simp [hn], ?_, hb.l _ (List.getElem_mem hn)⟩
  rw [show ((m : Int) + 1 - 1).toNat = m from by omega]
  simp [List.getD, hn]

set_option maxRecDepth 100000 in
set_option maxHeartbeats 1000000 in
theorem loads_any (v hv : Value) (c : Roads) (l : List Int) (w : World) (hb : RoadsB c) (hc : RoadsAt w v c) (hl : IntsAt w hv l) (hs : ∀ n, n ∈ l → 1 ≤ n ∧ n ≤ c.loads.length) (hlen : l.length ≤ 1000) :
    Calls Tryz.prog 127 #[v, hv] w fun e w' => e = .returned (.int .i64 (loadOf c l)) ∧ Ext w w' := by
  obtain ⟨lv, fv, rfl, hll, _⟩ := hc
  obtain ⟨a, k0, rfl, h1, h2, h3⟩ := hl.open
  obtain ⟨a', k', rfl, h1', h2', h3'⟩ := hll.open
  have n2 := hb.n2
  have hLA := fun m h => loadAt hb (m := m) h
  clear hl hll hb
  go_enter Tryz.func127, Tryz.ntmps127
  go_wp2
  go_loopw [5, 10] (fun out i wr => ∃ (k : Nat), k ≤ l.length ∧ i = .int .i64 k ∧ wr.ownsRow (w.heap.size + 1) 3 1 out k (((l.take k).map fun n => c.loads.getD (n - 1).toNat 0).map (.int .i64)) ∧ Ext (w.alloc (.cells #[.slice a' c.loads.length k', .int .i64 c.bears, fv] 69)) wr) (fun _ i _ => l.length - (intOf i).toNat)
  case atStart => exact ⟨0, Nat.zero_le _, rfl, World.ownsRow_nil _ _ _ _, Ext.refl _⟩
  case round =>
    obtain ⟨k, hk, rfl, hown, hx⟩ := hrel
    obtain ⟨hcx, hfx⟩ := hx.cells
    have hx0 : Ext w wr := Ext.trans ((Ext.refl w).alloc _) hx
    by_cases hlt : k < l.length
    · obtain ⟨b, o, n, rfl, hnk, hc⟩ := h3 k hlt
      obtain ⟨q1, q2⟩ := hs n (List.mem_of_getElem? hnk.out)
      obtain ⟨m, rfl⟩ : ∃ m : Nat, n = (m : Int) + 1 := ⟨(n - 1).toNat, by omega⟩
      obtain ⟨x, hx1, hx2, hx3, hx4⟩ := hLA m (by omega)
      obtain ⟨b', o', y, rfl, hyk, hc'⟩ := h3' m (by omega)
      have hyx : y = x := by have := hyk.out; rw [hx1] at this; exact (Option.some.inj this).symm
      subst hyx
      have HS : Hid ((l.take (k + 1)).map (fun n => c.loads.getD (n - 1).toNat 0) = (l.take k).map (fun n => c.loads.getD (n - 1).toNat 0) ++ [y]) := by
        unfold Hid; rw [List.take_add_one, hnk.out]; simp only [List.map_append, Option.toList_some, List.map_cons, List.map_nil, hx2]
      have hd := hx0.cell hc
      have hd' := hx0.cell hc'
      clear hc hc' h3 h3' hs hLA hx1 hx2
      go_wp2_with (at_builtin; refine wpList_push E_ints rfl _ _ rfl (w.heap.size + 1) rfl hown rfl rfl (by simp [Value.oneCell']) ?_ ?c1 ?c2 ?c3; intro g cap w2 hown' hext _)
      case c1 => unfold maxLen; omega
      case c2 => omega
      case c3 => have := hx.size; simpa using this
      go_roundw
      case rel => exact ⟨k + 1, by omega, by go_num, by rw [HS.out]; simpa using hown', hext _ hx (by simp)⟩
      case measure => simp [intOf]; omega
    · have hkl : k = l.length := by omega
      have ht : l.take k = l := List.take_of_length_le (by omega)
      rw [ht] at hown
      have hin : IntsAt wr u5 (l.map fun n => c.loads.getD (n - 1).toNat 0) := IntsAt.of_owns (base := w.heap.size + 1) (e := 3) (by rw [List.length_map, ← hkl]; exact hown)
      have hbd : ∀ x, x ∈ (l.map fun n => c.loads.getD (n - 1).toNat 0) → 0 ≤ x ∧ x ≤ 1000 := by
        intro x hx
        obtain ⟨n, hn, rfl⟩ := List.mem_map.1 hx
        obtain ⟨q1, q2⟩ := hs n hn
        obtain ⟨m, rfl⟩ : ∃ m : Nat, n = (m : Int) + 1 := ⟨(n - 1).toNat, by omega⟩
        obtain ⟨x, _, hx2, hx3, hx4⟩ := hLA m (by omega)
        rw [hx2]; exact ⟨hx3, hx4⟩
      have hsum : Calls Tryz.prog 136 #[u5] wr fun e w' => e = .returned (.int .i64 (loadOf c l)) ∧ wr = w' := sum_any u5 _ wr hin (fun j => by
        have h := sum_bound (l := (l.map fun n => c.loads.getD (n - 1).toNat 0).take j) (b := 1000) (fun x hx => hbd x (List.mem_of_mem_take hx))
        have h2 : ((l.map fun n => c.loads.getD (n - 1).toNat 0).take j).length ≤ l.length := by rw [List.length_take, List.length_map]; exact Nat.min_le_right _ _
        have h3 : (((l.map fun n => c.loads.getD (n - 1).toNat 0).take j).length : Int) * 1000 ≤ 1000 * 1000 := by omega
        omega) (fun x hx => by have := hbd x hx; omega)
      have HS := Lib.hid hsum
      clear hsum hbd hin ht hkl hs hLA h3 h3' hown
      go_wp2_with (go_at_call 136; refine HS.out.mono ?_; rintro e w' ⟨rfl, rfl⟩)
      go_ret
      exact ⟨rfl, hx0⟩

theorem farAt {c : Roads} (hb : RoadsB c) {i j : Nat} (hi : i ≤ c.loads.length) (hj : j ≤ c.loads.length) : ∃ l x, c.far[i]? = some l ∧ l[j]? = some x ∧ farOf c i j = x ∧ 0 ≤ x ∧ x ≤ 1000 := by
  have h1 : i < c.far.length := by have := hb.f; omega
  have h2 : j < (c.far[i]).length := by have := hb.fl _ (List.getElem_mem h1); omega
  refine ⟨c.far[i], (c.far[i])[j], by simp [h1], by simp [h2], ?_, hb.fx _ (List.getElem_mem h1) _ (List.getElem_mem h2)⟩
  simp [farOf, List.getD, h1, h2]

/-- The legs of a tour, from at on, without the way home. -/
def legs (c : Roads) : Int → List Int → List Int
  | _, [] => []
  | at_, n :: l => farOf c at_ n :: legs c n l
def lastOf : Int → List Int → Int
  | at_, [] => at_
  | _, n :: l => lastOf n l
theorem legs_snoc (c : Roads) : ∀ (a : Int) (l : List Int) (n : Int), legs c a (l ++ [n]) = legs c a l ++ [farOf c (lastOf a l) n]
  | _, [], _ => rfl
  | _, m :: l, n => by simp [legs, lastOf, legs_snoc c m l n]
theorem lastOf_snoc : ∀ (a : Int) (l : List Int) (n : Int), lastOf a (l ++ [n]) = n
  | _, [], _ => rfl
  | _, m :: l, n => by simp [lastOf, lastOf_snoc m l n]
theorem legs_length (c : Roads) : ∀ (a : Int) (l : List Int), (legs c a l).length = l.length
  | _, [] => rfl
  | _, m :: l => by simp [legs, legs_length c m l]
theorem goOf_legs (c : Roads) : ∀ (a : Int) (l : List Int), goOf c a l = (legs c a l ++ [farOf c (lastOf a l) 0]).sum
  | _, [] => by simp [goOf, legs, lastOf]
  | a, m :: l => by simp [goOf, legs, lastOf, goOf_legs c m l]; 
theorem lastOf_range {c : Roads} : ∀ (a : Int) (l : List Int), (0 ≤ a ∧ a ≤ c.loads.length) → (∀ n, n ∈ l → 1 ≤ n ∧ n ≤ c.loads.length) → 0 ≤ lastOf a l ∧ lastOf a l ≤ c.loads.length
  | a, [], ha, _ => ha
  | a, m :: l, _, h => lastOf_range m l (by have := h m (by simp); omega) (fun n hn => h n (by simp [hn]))
theorem farOf_range {c : Roads} (hb : RoadsB c) {i j : Int} (hi : 0 ≤ i ∧ i ≤ c.loads.length) (hj : 0 ≤ j ∧ j ≤ c.loads.length) : 0 ≤ farOf c i j ∧ farOf c i j ≤ 1000 := by
  obtain ⟨m, rfl⟩ : ∃ m : Nat, i = (m : Int) := ⟨i.toNat, by omega⟩
  obtain ⟨k, rfl⟩ : ∃ k : Nat, j = (k : Int) := ⟨j.toNat, by omega⟩
  obtain ⟨l, x, _, _, h, h'⟩ := farAt hb (i := m) (j := k) (by omega) (by omega)
  rw [h]; exact h'
theorem legs_range {c : Roads} (hb : RoadsB c) : ∀ (a : Int) (l : List Int), (0 ≤ a ∧ a ≤ c.loads.length) → (∀ n, n ∈ l → 1 ≤ n ∧ n ≤ c.loads.length) → ∀ x, x ∈ legs c a l → 0 ≤ x ∧ x ≤ 1000
  | a, [], _, _, x, hx => by simp [legs] at hx
  | a, m :: l, ha, h, x, hx => by
    have hm := h m (by simp)
    simp only [legs, List.mem_cons] at hx
    rcases hx with rfl | hx
    · exact farOf_range hb ha (by omega)
    · exact legs_range hb m l (by omega) (fun n hn => h n (by simp [hn])) x hx

/-- What is given up with: 'heavy'. -/
def heavyV (n : Int) : Value := .iface 153 (.agg #[.int .i64 n])
def LenPost (c : Roads) (l : List Int) (w : World) (e : Ending) (w' : World) : Prop :=
  (if c.bears < loadOf c l then e = .panicked [{ v := heavyV (loadOf c l), recovered := false }] else e = .returned (.int .i64 (lengthOf c l))) ∧ Ext w w'

set_option maxRecDepth 100000 in
set_option maxHeartbeats 2000000 in
theorem length_any (v hv : Value) (c : Roads) (l : List Int) (w : World) (hb : RoadsB c) (hc : RoadsAt w v c) (hl : IntsAt w hv l) (hs : ∀ n, n ∈ l → 1 ≤ n ∧ n ≤ c.loads.length) (hlen : l.length ≤ 1000) :
    Calls Tryz.prog 122 #[v, hv] w (LenPost c l w) := by
  have hld := fun w1 (hx : Ext w w1) => loads_any v hv c l w1 hb (hc.ext hx) (hl.ext hx) hs hlen
  obtain ⟨lv, fv, rfl, hll, hff⟩ := hc
  obtain ⟨a, k0, rfl, h1, h2, h3⟩ := hl.open
  obtain ⟨a', k', rfl, h1', h2', h3'⟩ := hff.open
  have HLD := Lib.hid hld
  clear hld
  by_cases hv : c.bears < loadOf c l
  · have hfin : ∀ w1, Ext w w1 → LenPost c l w (.panicked [{ v := heavyV (loadOf c l), recovered := false }]) w1 := fun w1 hx => ⟨by rw [if_pos hv], hx⟩
    have HF := Lib.hid hfin
    clear hfin hl hll hff h3 h3'
    go_enter Tryz.func122, Tryz.ntmps122
    go_wp2_with (go_at_call 127; refine (HLD.out _ ((Ext.refl w).alloc _)).mono ?_; rintro e w1 ⟨rfl, hx1⟩; obtain ⟨hc1, hf1⟩ := hx1.cells)
    exact ⟨rfl, HF.out _ (Ext.trans ((Ext.refl w).alloc _) hx1)⟩
  · have hfin : ∀ w1 n, n = lengthOf c l → Ext w w1 → LenPost c l w (.returned (.int .i64 n)) w1 := fun w1 n hn hx => ⟨by rw [if_neg hv, hn], hx⟩
    have HF := Lib.hid hfin
    have hv' : loadOf c l ≤ c.bears := by omega
    have n2 := hb.n2
    have HR := Lib.hid (@legs_range c hb)
    have HL := Lib.hid (fun k => @lastOf_range c 0 (l.take k) (by omega) (fun n hn => hs n (List.mem_of_mem_take hn)))
    have HA := Lib.hid (fun i j => @farAt c hb i j)
    clear hfin hv hll hff hl hb
    go_enter Tryz.func122, Tryz.ntmps122
    go_wp2_with (go_at_call 127; refine (HLD.out _ ((Ext.refl w).alloc _)).mono ?_; rintro e w1 ⟨rfl, hx1⟩; obtain ⟨hc1, hf1⟩ := hx1.cells)
    clear HLD hc1 hf1 hv'
    go_loopw [6, 7, 22] (fun out pos i wr => ∃ (k : Nat), k ≤ l.length ∧ i = .int .i64 k ∧ pos = .int .i64 (lastOf 0 (l.take k)) ∧ wr.ownsRow (w.heap.size + 1) 3 1 out k ((legs c 0 (l.take k)).map (.int .i64)) ∧ Ext (w.alloc (.cells #[lv, .int .i64 c.bears, .slice a' c.far.length k'] 69)) wr) (fun _ _ i _ => l.length - (intOf i).toNat)
    case atStart => exact ⟨0, Nat.zero_le _, rfl, rfl, World.ownsRow_nil _ _ _ _, hx1⟩
    case round =>
      obtain ⟨k, hk, rfl, rfl, hown, hx⟩ := hrel
      obtain ⟨hcx, hfx⟩ := hx.cells
      have hx0 : Ext w wr := Ext.trans ((Ext.refl w).alloc _) hx
      obtain ⟨p1, p2⟩ := HL.out k
      obtain ⟨p, hp⟩ : ∃ p : Nat, lastOf 0 (l.take k) = (p : Int) := ⟨(lastOf 0 (l.take k)).toNat, by omega⟩
      have hpl : p ≤ c.loads.length := by omega
      have hff := c.far.length
      by_cases hlt : k < l.length
      · obtain ⟨b, o, n, rfl, hnk, hc⟩ := h3 k hlt
        obtain ⟨q1, q2⟩ := hs n (List.mem_of_getElem? hnk.out)
        obtain ⟨m, rfl⟩ : ∃ m : Nat, n = (m : Int) := ⟨n.toNat, by omega⟩
        obtain ⟨row, x, r1, r2, r3, r4, r5⟩ := HA.out p m hpl (by omega)
        obtain ⟨b', o', y, ys, rfl, hyk, hc', hys⟩ := h3' p (List.getElem?_eq_some_iff.1 r1).1
        have hyr : ys = row := by have := hyk.out; rw [r1] at this; exact (Option.some.inj this).symm
        subst hyr
        obtain ⟨a3, k3, rfl, g1, g2, g3⟩ := hys.open
        have hml : m < ys.length := (List.getElem?_eq_some_iff.1 r2).1
        obtain ⟨b3, o3, z, rfl, hzk, hc3⟩ := g3 m hml
        have hzx : z = x := by have := hzk.out; rw [r2] at this; exact (Option.some.inj this).symm
        subst hzx
        have hpf : p < c.far.length := (List.getElem?_eq_some_iff.1 r1).1
        have HS : Hid (legs c 0 (l.take (k + 1)) = legs c 0 (l.take k) ++ [z] ∧ lastOf 0 (l.take (k + 1)) = (m : Int)) := by
          unfold Hid; rw [List.take_add_one, hnk.out]; simp only [Option.toList_some]; rw [legs_snoc, lastOf_snoc, hp, r3]; exact ⟨rfl, rfl⟩
        have hd := hx0.cell hc
        have hd' := hx0.cell hc'
        have hd3 := hx0.cell hc3
        rw [hp]
        clear hc hc' hc3 h3 h3' hs HA r1 r2 r3 hp g3 hys hyk hzk HF HR HL
        go_wp2_with (at_builtin; refine wpList_push E_ints rfl _ _ rfl (w.heap.size + 1) rfl hown rfl rfl (by simp [Value.oneCell']) ?_ ?c1 ?c2 ?c3; intro g cap w2 hown' hext _)
        case c1 => unfold maxLen; omega
        case c2 => omega
        case c3 => have := hx.size; simpa using this
        go_roundw
        case rel => exact ⟨k + 1, by omega, by go_num, by rw [HS.out.2], by rw [HS.out.1]; simpa using hown', hext _ hx (by simp)⟩
        case measure => simp [intOf]; omega
      · have hkl : k = l.length := by omega
        have ht : l.take k = l := List.take_of_length_le (by omega)
        rw [ht] at hown hp
        obtain ⟨row, x, r1, r2, r3, r4, r5⟩ := HA.out p 0 hpl (by omega)
        obtain ⟨b', o', y, ys, rfl, hyk, hc', hys⟩ := h3' p (List.getElem?_eq_some_iff.1 r1).1
        have hyr : ys = row := by have := hyk.out; rw [r1] at this; exact (Option.some.inj this).symm
        subst hyr
        obtain ⟨a3, k3, rfl, g1, g2, g3⟩ := hys.open
        have hml : 0 < ys.length := (List.getElem?_eq_some_iff.1 r2).1
        obtain ⟨b3, o3, z, rfl, hzk, hc3⟩ := g3 0 hml
        have hzx : z = x := by have := hzk.out; rw [r2] at this; exact (Option.some.inj this).symm
        subst hzx
        have hpf : p < c.far.length := (List.getElem?_eq_some_iff.1 r1).1
        have hsum : (legs c 0 l ++ [z]).sum = lengthOf c l := by rw [lengthOf, goOf_legs, hp, ← r3]; rfl
        have hbd : ∀ x, x ∈ (legs c 0 l ++ [z]) → 0 ≤ x ∧ x ≤ 1000 := by
          intro x hx
          rcases List.mem_append.1 hx with hx | hx
          · exact HR.out 0 l (by omega) hs x hx
          · simp at hx; subst hx; exact ⟨r4, r5⟩
        have hcall : ∀ v2 w2, IntsAt w2 v2 (legs c 0 l ++ [z]) → Calls Tryz.prog 136 #[v2] w2 fun e w' => e = .returned (.int .i64 (lengthOf c l)) ∧ w2 = w' := fun v2 w2 hin => by
          have := sum_any v2 _ w2 hin (fun j => by
            have h := sum_bound (l := (legs c 0 l ++ [z]).take j) (b := 1000) (fun x hx => hbd x (List.mem_of_mem_take hx))
            have h2 : ((legs c 0 l ++ [z]).take j).length ≤ l.length + 1 := by rw [List.length_take]; have := legs_length c 0 l; simp; omega
            omega) (fun x hx => by have := hbd x hx; omega)
          rw [hsum] at this; exact this
        have HC := Lib.hid hcall
        have hLL := legs_length c 0 l
        have hd' := hx0.cell hc'
        have hd3 := hx0.cell hc3
        rw [Nat.add_zero] at hd3
        rw [ht, hp]
        rw [hkl] at hown
        obtain ⟨L, hL⟩ : ∃ L, legs c 0 l = L := ⟨_, rfl⟩
        rw [hL] at hown HC hLL
        clear hc' hc3 h3 h3' hs HA r1 r2 r3 hp g3 hys hyk hzk HR HL hcall hbd hsum hL ht hkl
        go_wp2_with (first | (at_builtin; refine wpList_push E_ints rfl _ _ rfl (w.heap.size + 1) rfl hown rfl rfl (by simp [Value.oneCell']) ?_ ?c1 ?c2 ?c3; intro g cap w2 hown' hext _) | (go_at_call 136; refine (HC.out _ _ (IntsAt.of_owns (base := w.heap.size + 1) (e := 3) (by simpa [hLL] using hown'))).mono ?_; rintro e w3 ⟨rfl, rfl⟩))
        case c1 => unfold maxLen; omega
        case c2 => omega
        case c3 => have := hx.size; simpa using this
        go_ret
        exact HF.out _ _ rfl (hext _ hx0 (by omega))
end Go.Proofs.YtbeophjdiddomaaGreatDoor

/- Parts of a slice of ints: what reads as the first of them, and as the rest. -/
namespace Go.Proofs.YtbeophjdiddomaaGreatDoor
open Go.RowKit

theorem ints_prefix {w : World} {a : Option Addr} {c j : Nat} {l : List Int} (h : IntsAt w (.slice a l.length c) l) (hj : j ≤ l.length) : IntsAt w (.slice a j c) (l.take j) := by
  obtain ⟨a', c', he, h1, h2, h0, h3⟩ := h
  cases he
  have hlen : (l.take j).length = j := by simp [hj]
  refine ⟨a, c, by rw [hlen], by rw [hlen]; omega, h2, h0, fun i u hu => h3 i u ?_⟩
  rw [List.getElem?_map] at hu ⊢
  rw [List.getElem?_take] at hu
  split at hu
  · exact hu
  · cases hu
theorem ints_suffix {w : World} {b o c j : Nat} {l : List Int} (h : IntsAt w (.slice (some ⟨b, o, none⟩) l.length c) l) (hj : j ≤ l.length) : IntsAt w (.slice (some ⟨b, o + j, none⟩) (l.length - j) (c - j)) (l.drop j) := by
  obtain ⟨a', c', he, h1, h2, h0, h3⟩ := h
  cases he
  have hlen : (l.drop j).length = l.length - j := by simp
  refine ⟨_, _, by rw [hlen], by rw [hlen]; omega, by omega, (fun h => by cases h), fun i u hu => ?_⟩
  rw [List.getElem?_map, List.getElem?_drop, ← List.getElem?_map] at hu
  obtain ⟨b', o', e, hc⟩ := h3 (j + i) u hu
  cases e
  exact ⟨b, o + j, rfl, by rw [Nat.add_assoc]; exact hc⟩
theorem suffix_row {W : World} {b o c j : Nat} {l : List Int} (A : Option Addr) (hA : A = if c = j + 1 then some ⟨b, o, none⟩ else some ⟨b, o + (j + 1), none⟩) (h : IntsAt W (.slice (some ⟨b, o, none⟩) l.length c) l) (hj : j + 1 ≤ l.length) :
    RowAt W (.slice A (l.length - (j + 1)) (c - (j + 1))) (l.length - (j + 1)) ((l.drop (j + 1)).map (.int .i64)) := by
  by_cases hc : c = j + 1
  · rw [if_pos hc] at hA
    subst hA
    obtain ⟨a', c', he, h1, h2, _, _⟩ := h
    cases he
    have hd : l.drop (j + 1) = [] := List.drop_eq_nil_of_le (by omega)
    exact ⟨_, _, rfl, by omega, by omega, (fun h => by cases h), fun i u hu => by rw [hd] at hu; simp at hu⟩
  · rw [if_neg hc] at hA
    subst hA
    have h2 := ints_suffix h hj
    unfold IntsAt at h2
    rw [List.length_drop] at h2
    exact h2
end Go.Proofs.YtbeophjdiddomaaGreatDoor
