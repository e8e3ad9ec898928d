/- Rounds: how they lie in memory, and the contracts of the functions that look at them. -/
import Derived.Test.YtbeophjdiddomaaGreatDoorLeafb
namespace Go.Proofs.YtbeophjdiddomaaGreatDoor
open Go.RowKit

def HousesAt (w : World) (v : Value) (hs : List House) : Prop := RowAt w v hs.length (hs.flatMap House.cells)
theorem HousesAt.ext {w w' : World} {v : Value} {hs : List House} (h : HousesAt w v hs) (k : Ext w w') : HousesAt w' v hs := RowAt.ext h k
theorem flatMap_at {α β : Type} (f : α → List β) (n : Nat) (hn : ∀ x, (f x).length = n) : ∀ (l : List α) (i j : Nat) (x : α), l[i]? = some x → j < n → (l.flatMap f)[i * n + j]? = (f x)[j]?
  | [], i, j, x, h, _ => by simp at h
  | y :: l, 0, j, x, h, hj => by
    simp at h; subst h
    simp only [List.flatMap_cons, Nat.zero_mul, Nat.zero_add]
    rw [List.getElem?_append_left (by rw [hn]; exact hj)]
  | y :: l, i + 1, j, x, h, hj => by
    simp only [List.flatMap_cons]
    rw [List.getElem?_append_right (by rw [hn, Nat.succ_mul]; omega), hn]
    rw [show (i + 1) * n + j - n = i * n + j from by rw [Nat.succ_mul]; omega]
    exact flatMap_at f n hn l i j x (by simpa using h) hj
theorem HousesAt.open {w : World} {v : Value} {hs : List House} (h : HousesAt w v hs) : ∃ a c, v = .slice a hs.length c ∧ hs.length ≤ c ∧ c ≤ 9223372036854775807 ∧ ∀ i, i < hs.length → ∃ b o x, a = some ⟨b, o, none⟩ ∧ Hid (hs[i]? = some x) ∧
    w.cell? ⟨b, o + i * 6, none⟩ = some (.int .i64 x.out) ∧ w.cell? ⟨b, o + i * 6 + 1, none⟩ = some (.int .i64 x.cards) ∧ w.cell? ⟨b, o + i * 6 + 2, none⟩ = some (.int .i64 x.full) ∧
    w.cell? ⟨b, o + i * 6 + 3, none⟩ = some (.int .i64 x.loose) ∧ w.cell? ⟨b, o + i * 6 + 4, none⟩ = some (.int .i64 x.miss) ∧ w.cell? ⟨b, o + i * 6 + 5, none⟩ = some (.int .i64 x.weighed) := by
  obtain ⟨a, c, hv, h1, h2, _, h3⟩ := h
  refine ⟨a, c, hv, h1, h2, fun i hi => ?_⟩
  have hx : hs[i]? = some hs[i] := by simp [hi]
  have key : ∀ j, j < 6 → ∀ u, (hs[i]).cells[j]? = some u → ∃ b o, a = some ⟨b, o, none⟩ ∧ w.cell? ⟨b, o + (i * 6 + j), none⟩ = some u := fun j hj u hu =>
    h3 (i * 6 + j) u (by rw [flatMap_at House.cells 6 (fun _ => rfl) hs i j _ hx hj]; exact hu)
  obtain ⟨b, o, rfl, c0⟩ := key 0 (by omega) _ rfl
  have c' : ∀ j, j < 6 → ∀ u, (hs[i]).cells[j]? = some u → w.cell? ⟨b, o + (i * 6 + j), none⟩ = some u := fun j hj u hu => by
    obtain ⟨b', o', e, hc⟩ := key j hj u hu
    cases e; exact hc
  exact ⟨b, o, hs[i], rfl, hx, c0, c' 1 (by omega) _ rfl, c' 2 (by omega) _ rfl, c' 3 (by omega) _ rfl, c' 4 (by omega) _ rfl, c' 5 (by omega) _ rfl⟩

def Round.cells (r : Round) (hv : Value) : List Value := [.int .i64 r.per, .int .i64 r.lo, .int .i64 r.hi, .int .i64 r.card, .int .i64 r.slack, hv, .int .i64 r.all, .int .i64 r.off]
/-- A round, as a value. -/
def RoundAt (w : World) (v : Value) (r : Round) : Prop := ∃ hv, v = .agg (r.cells hv).toArray ∧ HousesAt w hv r.houses
theorem RoundAt.ext {w w' : World} {v : Value} {r : Round} (h : RoundAt w v r) (k : Ext w w') : RoundAt w' v r := by
  obtain ⟨hv, h1, h2⟩ := h
  exact ⟨hv, h1, h2.ext k⟩

theorem isRound1_any (h : House) (w : World) :
    Calls Tryz.prog 80 #[.agg h.cells.toArray] w fun e w' => e = .returned (.bool (badHouse h)) ∧ Ext w w' := by
  unfold House.cells
  go_enter Tryz.func80, Tryz.ntmps80
  go_wp2_with (go_at_call 45; refine (in_any _ _ _ _).mono ?_; rintro e w' ⟨rfl, rfl⟩)
  all_goals go_ret
  all_goals refine ⟨?_, (Ext.refl _).alloc _⟩
  all_goals simp [badHouse, *]

set_option maxHeartbeats 400000 in
theorem indexFuncH (v : Value) (hs : List House) (w : World) (hv : HousesAt w v hs) :
    Calls Tryz.prog 107 #[v, .func (.func 80) #[] #[]] w (IdxPost w (hs.any badHouse)) := by
  obtain ⟨a, c, rfl, h1, h2, h3⟩ := hv.open
  go_enter Tryz.func107, Tryz.ntmps107
  go_wp2
  go_loopw [8] (fun i wr => ∃ k : Nat, k ≤ hs.length ∧ i = .int .i64 k ∧ Hid ((hs.take k).any badHouse = false) ∧ Ext w wr) (fun i _ => hs.length - (intOf i).toNat)
  case atStart => exact ⟨0, Nat.zero_le _, rfl, by simp [Hid], Ext.refl _⟩
  case round =>
    obtain ⟨k, hk, rfl, hno, hx⟩ := hrel
    by_cases hlt : k < hs.length
    · obtain ⟨b, o, x, rfl, hxk, c0, c1, c2, c3, c4, c5⟩ := h3 k hlt
      have d0 := hx.cell c0
      have d1 := hx.cell c1
      have d2 := hx.cell c2
      have d3 := hx.cell c3
      have d4 := hx.cell c4
      have d5 := hx.cell c5
      clear c0 c1 c2 c3 c4 c5 h3
      go_wp2_with (go_at_call 80; refine Calls.mono (isRound1_any x _) ?_; rintro e w' ⟨rfl, hx'⟩)
      · go_ret
        exact ⟨⟨_, rfl, by rw [any_of_at badHouse hxk.out (by assumption)]; simp⟩, hx.trans hx'⟩
      · go_roundw
        case rel => exact ⟨k + 1, by omega, by go_num, by unfold Hid; rw [any_take_succ badHouse hxk.out, hno.out]; simpa using ‹badHouse x = false›, hx.trans hx'⟩
        case measure => simp [intOf]; omega
    · go_wp2
      go_ret
      exact ⟨⟨_, rfl, by have := hno.out; rw [List.take_of_length_le (by omega)] at this; rw [this]; simp⟩, hx⟩

theorem containsFuncH (v : Value) (hs : List House) (w : World) (hv : HousesAt w v hs) :
    Calls Tryz.prog 79 #[v, .func (.func 80) #[] #[]] w fun e w' => e = .returned (.bool (hs.any badHouse)) ∧ Ext w w' := by
  go_enter Tryz.func79, Tryz.ntmps79
  go_wp2_with (go_at_call 107; refine (indexFuncH v hs _ hv).mono ?_; rintro e w' ⟨⟨n, rfl, hn⟩, hx⟩)
  go_ret
  exact ⟨by simp, hx⟩

set_option maxRecDepth 100000 in
set_option maxHeartbeats 1000000 in
theorem isRound_any (v : Value) (r : Round) (w : World) (hr : RoundAt w v r) :
    Calls Tryz.prog 39 #[v] w fun e w' => e = .returned (.bool (isRoundB r)) ∧ Ext w w' := by
  obtain ⟨hv, rfl, hh⟩ := hr
  unfold Round.cells
  obtain ⟨a, c, rfl, h1, h2, h3⟩ := hh.open
  clear h3
  by_cases hb : 1 ≤ r.lo ∧ r.lo ≤ r.hi ∧ r.hi ≤ 50
  · obtain ⟨hb1, hb2, hb3⟩ := hb
    have hlo : inB r.lo 1 r.hi = true := by simp [inB]; omega
    go_enter Tryz.func39, Tryz.ntmps39
    go_wp2_with (first | (go_at_call 45; refine (in_any _ _ _ _).mono ?_; rintro e w' ⟨rfl, rfl⟩) | (go_at_call 79; refine (containsFuncH _ r.houses _ (hh.ext ((Ext.refl w).alloc _))).mono ?_; rintro e w1 ⟨rfl, hx1⟩))
    all_goals go_ret
    all_goals refine ⟨?_, by first | exact (Ext.refl _).alloc _ | exact Ext.trans ((Ext.refl w).alloc _) ‹_›⟩
    all_goals first | (simp [isRoundB, *]; done) | (simp [isRoundB, *]; intros; omega)
  · go_enter Tryz.func39, Tryz.ntmps39
    go_wp2_with (first | (go_at_call 45; refine (in_any _ _ _ _).mono ?_; rintro e w' ⟨rfl, rfl⟩) | (go_at_call 79; refine (containsFuncH _ r.houses _ (hh.ext ((Ext.refl w).alloc _))).mono ?_; rintro e w1 ⟨rfl, hx1⟩))
    all_goals first
      | (exfalso; have g1 : inB r.lo 1 r.hi = true := by assumption
         have g2 : r.hi ≤ 50 := by assumption
         rw [inB_iff] at g1; omega)
      | (go_ret
         refine ⟨?_, (Ext.refl _).alloc _⟩
         first | (simp [isRoundB, *]; done) | (simp [isRoundB, *]; intros; omega))

end Go.Proofs.YtbeophjdiddomaaGreatDoor

/- What a house can have brought: the contracts. -/
namespace Go.Proofs.YtbeophjdiddomaaGreatDoor
open Go.RowKit

def weighedV (r : Round) (hv : Value) (button : Int) : Value := .agg #[.int .i64 r.per, .int .i64 r.lo, .int .i64 r.hi, .int .i64 r.card, .int .i64 r.slack, hv, .int .i64 r.all, .int .i64 r.off, .int .i64 button]
def broughtV (full loose : Int) : Value := .agg #[.int .i64 full, .int .i64 loose]

theorem buttons_any (r : Round) (hv : Value) (button full loose : Int) (w : World) (hp : 0 ≤ r.per) (hp' : r.per ≤ 36) (hf : 0 ≤ full) (hf' : full ≤ 60) (hl : -1000000 ≤ loose) (hl' : loose ≤ 1000000) :
    Calls Tryz.prog 48 #[weighedV r hv button, broughtV full loose] w fun e w' => e = .returned (.int .i64 (nOf r full loose)) ∧ Ext w w' := by
  have h1 : 0 ≤ r.per * full := Int.mul_nonneg hp hf
  have h2 : r.per * full ≤ 2160 := by
    have := Int.mul_le_mul hp' hf' hf (by omega : (0:Int) ≤ 36)
    omega
  unfold weighedV broughtV nOf
  go_enter Tryz.func48, Tryz.ntmps48
  go_wp2
  go_ret
  exact ⟨rfl, ((Ext.refl _).alloc _).alloc _⟩

def SomeInt (w : World) (e : Ending) (w' : World) : Prop := ∃ n : Int, e = .returned (.int .i64 n) ∧ Ext w w'
theorem buttons_some (r : Round) (hv : Value) (button full loose : Int) (w : World) :
    Calls Tryz.prog 48 #[weighedV r hv button, broughtV full loose] w (SomeInt w) := by
  unfold weighedV broughtV
  go_enter Tryz.func48, Tryz.ntmps48
  go_wp2
  go_ret
  exact ⟨_, rfl, ((Ext.refl _).alloc _).alloc _⟩

theorem counts_any (h : House) (full loose : Int) (w : World) (hb : badHouse h = false) (hf : 0 ≤ full) (hf' : full ≤ 60) (hl : 0 ≤ loose) (hl' : loose ≤ 36) :
    Calls Tryz.prog 47 #[.agg h.cells.toArray, broughtV full loose] w fun e w' => e = .returned (.bool (countsB h full loose)) ∧ Ext w w' := by
  obtain ⟨⟨a1, a2⟩, ⟨b1, b2⟩, ⟨c1, c2⟩, ⟨d1, d2⟩, ⟨e1, e2⟩, ⟨f1, f2⟩⟩ := badHouse_iff.1 hb
  clear hb
  unfold House.cells broughtV
  go_enter Tryz.func47, Tryz.ntmps47
  go_wp2_with (go_at_call 49; refine (near_any _ _ _ _ (by omega) (by omega) (by omega) (by omega) (by omega) (by omega)).mono ?_; rintro e w' ⟨rfl, rfl⟩)
  all_goals go_ret
  all_goals refine ⟨?_, ((Ext.refl _).alloc _).alloc _⟩
  all_goals simp [countsB, *]

structure RoundB (r : Round) : Prop where
  p1 : 2 ≤ r.per
  p2 : r.per ≤ 36
  l1 : 1 ≤ r.lo
  l2 : r.lo ≤ r.hi
  l3 : r.hi ≤ 50
  l4 : r.hi - r.lo ≤ 4
  c1 : 0 ≤ r.card
  c2 : r.card ≤ 100
  s1 : 0 ≤ r.slack
  s2 : r.slack ≤ 500
  h1 : 1 ≤ r.houses.length
  h2 : r.houses.length ≤ 4
  a1 : 0 ≤ r.all
  a2 : r.all ≤ 12000
  o1 : 0 ≤ r.off
  o2 : r.off ≤ 100
  hs : ∀ h, h ∈ r.houses → badHouse h = false
theorem roundB_of {r : Round} (h : isRoundB r = true) : RoundB r := by
  obtain ⟨⟨a, a'⟩, ⟨b, b'⟩, c, d, ⟨e, e'⟩, ⟨f, f'⟩, ⟨g, g'⟩, ⟨i, i'⟩, ⟨j, j'⟩, k⟩ := isRoundB_iff.1 h
  exact ⟨a, a', b, b', c, d, e, e', f, f', by omega, by omega, i, i', j, j', k⟩

set_option maxRecDepth 100000 in
set_option maxHeartbeats 1000000 in
theorem can_any (r : Round) (hv : Value) (button : Int) (h : House) (full loose : Int) (w : World) (hr : RoundB r) (hw : r.lo ≤ button) (hw' : button ≤ r.hi) (hb : badHouse h = false) (hf : 0 ≤ full) (hf' : full ≤ 60) :
    Calls Tryz.prog 46 #[weighedV r hv button, .agg h.cells.toArray, broughtV full loose] w fun e w' => e = .returned (.bool (canB r button h full loose)) ∧ Ext w w' := by
  obtain ⟨⟨a1, a2⟩, ⟨b1, b2⟩, ⟨c1, c2⟩, ⟨d1, d2⟩, ⟨e1, e2⟩, ⟨f1, f2⟩⟩ := badHouse_iff.1 hb
  have p1 := hr.p1
  have p2 := hr.p2
  have l1 := hr.l1
  have l3 := hr.l3
  have g1 := hr.c1
  have g2 := hr.c2
  have s1 := hr.s1
  have s2 := hr.s2
  clear hb hr
  by_cases hl : inB loose 0 (r.per - 1) = true
  · obtain ⟨hl1, hl2⟩ := inB_iff.1 hl
    obtain ⟨n, hn⟩ : ∃ n, nOf r full loose = n := ⟨_, rfl⟩
    have hn1 : 0 ≤ n ∧ n ≤ 2200 := by
      have h1 : 0 ≤ r.per * full := Int.mul_nonneg (by omega) hf
      have h2 : r.per * full ≤ 2160 := by
        have := Int.mul_le_mul p2 hf' hf (by omega : (0:Int) ≤ 36)
        omega
      unfold nOf at hn; omega
    obtain ⟨hn1, hn2⟩ := hn1
    have m1 : 0 ≤ n * button := Int.mul_nonneg hn1 (by omega)
    have m2 : n * button ≤ 110000 := by
      have := Int.mul_le_mul hn2 (by omega : button ≤ 50) (by omega) (by omega : (0:Int) ≤ 2200)
      omega
    have k1 : 0 ≤ full * r.card := Int.mul_nonneg hf (by omega)
    have k2 : full * r.card ≤ 6000 := by
      have := Int.mul_le_mul hf' g2 (by omega) (by omega : (0:Int) ≤ 60)
      omega
    have hbt := fun w1 => buttons_any r hv button full loose w1 (by omega) p2 hf hf' (by omega) (by omega)
    have hc : canB r button h full loose = (inB full 0 h.cards && (inB loose 0 (r.per - 1)) && decide (n ≤ h.out) && inB (n * button + full * r.card - h.weighed) (-r.slack) r.slack) := by rw [canB, hn]
    rw [hc]
    rw [hn] at hbt
    clear hn hc
    have HB := Lib.hid hbt
    clear hbt
    unfold weighedV broughtV House.cells at *
    go_enter Tryz.func46, Tryz.ntmps46
    go_wp2_with (first | (go_at_call 48; refine (HB.out _).mono ?_; rintro e w1 ⟨rfl, hx1⟩; obtain ⟨hc1, hf1⟩ := hx1.cells) | (go_at_call 45; refine (in_any _ _ _ _).mono ?_; rintro e w' ⟨rfl, rfl⟩) | (go_at_call 49; refine (near_any _ _ _ _ (by omega) (by omega) (by omega) (by omega) (by omega) (by omega)).mono ?_; rintro e w' ⟨rfl, rfl⟩))
    all_goals go_ret
    all_goals refine ⟨?_, Ext.trans ((((Ext.refl w).alloc _).alloc _).alloc _) hx1⟩
    all_goals first | (simp [*]; done) | (simp [*]; intros; omega)
  · have hl0 : inB loose 0 (r.per - 1) = false := by simpa using hl
    have hc : canB r button h full loose = false := by simp [canB, hl0]
    rw [hc]
    have HB := Lib.hid (fun w1 => buttons_some r hv button full loose w1)
    clear hc hl
    unfold weighedV broughtV House.cells at *
    go_enter Tryz.func46, Tryz.ntmps46
    go_wp2_with (first | (go_at_call 48; refine (HB.out _).mono ?_; rintro e w1 ⟨n, rfl, hx1⟩; obtain ⟨hc1, hf1⟩ := hx1.cells) | (go_at_call 45; refine (in_any _ _ _ _).mono ?_; rintro e w' ⟨rfl, rfl⟩))
    all_goals go_ret
    all_goals refine ⟨?_, Ext.trans ((((Ext.refl w).alloc _).alloc _).alloc _) hx1⟩
    all_goals first | rfl | (simp [*]; done)

theorem isTruth_any (v : Value) (r : Round) (button : Int) (fv lv : Value) (fs ls : List Int) (w : World) (hr : RoundAt w v r) (hf : IntsAt w fv fs) (hl : IntsAt w lv ls) :
    Calls Tryz.prog 44 #[v, .agg #[.int .i64 button, fv, lv]] w fun e w' => e = .returned (.bool (decide (fs.length = r.houses.length) && decide (ls.length = r.houses.length))) ∧ Ext w w' := by
  obtain ⟨hv, rfl, hh⟩ := hr
  obtain ⟨a, c, rfl, h1, h2, _⟩ := hh.open
  obtain ⟨a', c', rfl, h1', h2', _⟩ := hf.open
  obtain ⟨a'', c'', rfl, h1'', h2'', _⟩ := hl.open
  clear hh hf hl
  unfold Round.cells
  obtain ⟨n, hn⟩ : ∃ n, r.houses.length = n := ⟨_, rfl⟩
  obtain ⟨m, hm⟩ : ∃ m, fs.length = m := ⟨_, rfl⟩
  obtain ⟨k, hk⟩ : ∃ k, ls.length = k := ⟨_, rfl⟩
  rw [hn, hm, hk]
  rw [hn] at h1
  rw [hm] at h1'
  rw [hk] at h1''
  clear hn hm hk
  by_cases q1 : m = n
  · subst q1
    by_cases q2 : k = m
    · subst q2
      go_enter Tryz.func44, Tryz.ntmps44
      go_wp2
      go_ret
      exact ⟨by simp, ((Ext.refl w).alloc _).alloc _⟩
    · have t1 : (k == m) = false := by simpa using q2
      have t2 : ((k : Int) == (m : Int)) = false := by rw [beq_eq_false_iff_ne]; omega
      go_enter Tryz.func44, Tryz.ntmps44
      go_wp2
      go_ret
      exact ⟨by simp [q2], ((Ext.refl w).alloc _).alloc _⟩
  · have t1 : (m == n) = false := by simpa using q1
    have t2 : ((m : Int) == (n : Int)) = false := by rw [beq_eq_false_iff_ne]; omega
    go_enter Tryz.func44, Tryz.ntmps44
    go_wp2
    go_ret
    exact ⟨by simp [q1], ((Ext.refl w).alloc _).alloc _⟩
end Go.Proofs.YtbeophjdiddomaaGreatDoor
