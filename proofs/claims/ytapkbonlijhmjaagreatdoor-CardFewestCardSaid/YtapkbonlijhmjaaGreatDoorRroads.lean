/- The law's short; the reference's Roads, Some, Rising, Load, Length. -/
import Derived.Test.YtapkbonlijhmjaaGreatDoorRefspec
import Derived.Test.YtapkbonlijhmjaaGreatDoorRefa
import Derived.Test.YtapkbonlijhmjaaGreatDoorSearchr
namespace Go.Proofs.YtapkbonlijhmjaaGreatDoor
open Go.RowKit

abbrev boxC (c : Roads) (la fa : Option Addr) (lk fk : Nat) : Obj := .cells #[.slice la c.loads.length lk, .int .i64 c.bears, .slice fa c.far.length fk] 25
theorem boxC_cells {c : Roads} {la fa : Option Addr} {lk fk : Nat} {W : World} {b : Nat} (h : W.heap[b]? = some (boxC c la fa lk fk)) :
    W.cell? ⟨b, 0, none⟩ = some (.slice la c.loads.length lk) ∧ W.cell? ⟨b, 1, none⟩ = some (.int .i64 c.bears) ∧ W.cell? ⟨b, 2, none⟩ = some (.slice fa c.far.length fk) := by
  refine ⟨?_, ?_, ?_⟩ <;> simp [World.cell?, h]
theorem rin_same (x lo hi : Int) (w : World) : Calls Tryz.prog 60 #[.int .i64 x, .int .i64 lo, .int .i64 hi] w fun e w' => e = .returned (.bool (inB x lo hi)) ∧ w' = w :=
  (rin_any x lo hi w).mono fun _ _ h => ⟨h.1, h.2.symm⟩
def shortRow (l : List Int) : Bool := decide ((l.length : Int) ≤ 8)
def shortB (c : Roads) : Bool := (c.far.take 9).all shortRow && decide ((c.far.length : Int) ≤ 8) && decide ((c.loads.length : Int) ≤ 7)
theorem all_at {α : Type} (p : α → Bool) {xs : List α} {k n : Nat} {x : α} (hk : k < n) (hx : xs[k]? = some x) (hp : p x = false) : (xs.take n).all p = false := by
  rw [List.all_eq_false]
  exact ⟨x, List.mem_of_getElem? (i := k) (by rw [List.getElem?_take, if_pos hk]; exact hx), by simp [hp]⟩
theorem all_succ {α : Type} (p : α → Bool) {xs : List α} {k : Nat} {x : α} (h : (xs.take k).all p = true) (hx : xs[k]? = some x) (hp : p x = true) : (xs.take (k + 1)).all p = true := by
  rw [List.take_add_one, hx, List.all_append, h]; simp [hp]
set_option maxRecDepth 100000 in
set_option maxHeartbeats 2000000 in
theorem short_any (v : Value) (c : Roads) (w : World) (hc : RoadsAt w v c) :
    Calls Tryz.prog 11 #[v] w fun e w' => e = .returned (.bool (shortB c)) ∧ Ext w w' := by
  obtain ⟨lv, fv, rfl, hll, hff⟩ := hc
  obtain ⟨la, lk, rfl, l1, l2, _⟩ := hll.open
  obtain ⟨fa, fk, rfl, f1, f2, f3⟩ := hff.open
  have hx0 : Ext w (w.alloc (boxC c la fa lk fk)) := (Ext.refl w).alloc _
  have HX0 := Lib.hid hx0
  obtain ⟨c0, c1, c2⟩ := boxC_cells (World.alloc_heap_new w (boxC c la fa lk fk))
  have F3 := Lib.hid f3
  clear hll hff f3 hx0
  go_enter Tryz.func11, Tryz.ntmps11
  go_wp2
  have HW : Hid (w.alloc (boxC c la fa lk fk) = w.alloc (boxC c la fa lk fk)) := Lib.hid rfl
  generalize hW : w.alloc (boxC c la fa lk fk) = W at *
  go_loopw [3] (fun i wr => ∃ k : Nat, k ≤ c.far.length ∧ k ≤ 9 ∧ i = .int .i64 k ∧ Hid ((c.far.take k).all shortRow = true) ∧ W = wr) (fun i _ => c.far.length - (intOf i).toNat)
  case atStart => exact ⟨0, Nat.zero_le _, by omega, rfl, by simp [Hid], rfl⟩
  case round =>
    obtain ⟨k, hk, hk9, rfl, hno, rfl⟩ := hrel
    by_cases hlt : k < c.far.length ∧ k < 9
    · obtain ⟨b, o, x, xs, rfl, hxk, hcx, hxs⟩ := F3.out k hlt.1
      obtain ⟨a3, k3, rfl, g1, g2, _⟩ := hxs.open
      have d := HX0.out.cell hcx
      have x1 : decide ((k : Int) < (c.far.length : Int)) = true := by simpa using hlt.1
      have x2 : decide ((k : Int) < 9) = true := by simp; omega
      have x3 : k < c.far.length := hlt.1
      have x4 : (k : Int) < (c.far.length : Int) := by omega
      obtain ⟨hlt1, hlt2⟩ := hlt
      clear hcx hxs
      cases hq : shortRow xs with
      | false =>
        have HN : Hid (shortB c = false) := by unfold Hid shortB; rw [all_at shortRow hlt2 hxk.out hq]; rfl
        unfold shortRow at hq
        have x5 : decide ((8 : Int) < (xs.length : Int)) = true := by simp only [decide_eq_false_iff_not] at hq; simp; omega
        clear hq
        go_wp2
        go_ret
        exact ⟨by rw [HN.out] <;> rfl, HX0.out⟩
      | true =>
        have HN := Lib.hid (all_succ shortRow hno.out hxk.out hq)
        unfold shortRow at hq
        have x5 : decide ((8 : Int) < (xs.length : Int)) = false := by simp only [decide_eq_true_eq] at hq; simp; omega
        clear hq
        go_wp2
        go_roundw
        case rel => exact ⟨k + 1, by omega, by omega, by go_num, HN, by trivial⟩
        case measure => simp [intOf]; omega
    · have HN : Hid ((c.far.take 9).all shortRow = true) := by
        have h := hno.out
        by_cases q : k = 9
        · subst q; exact h
        · rw [List.take_of_length_le (by omega)] at h
          unfold Hid
          rw [List.all_eq_true] at h ⊢
          intro x hx
          exact h x (List.mem_of_mem_take hx)
      have HS : Hid (shortB c = (decide ((c.far.length : Int) ≤ 8) && decide ((c.loads.length : Int) ≤ 7))) := by unfold Hid shortB; rw [HN.out]; rfl
      by_cases q1 : k < c.far.length
      · have x1 : decide ((k : Int) < (c.far.length : Int)) = true := by simpa using q1
        have x2 : decide ((k : Int) < 9) = false := by simp; omega
        have x5 : decide ((c.far.length : Int) ≤ 8) = false := by simp; omega
        go_wp2
        go_ret
        exact ⟨by rw [HS.out, x5] <;> rfl, HX0.out⟩
      · have x1 : decide ((k : Int) < (c.far.length : Int)) = false := by simpa using q1
        cases q2 : decide ((c.far.length : Int) ≤ 8) with
        | false =>
          rw [q2] at HS
          go_wp2
          go_ret
          exact ⟨by rw [HS.out] <;> rfl, HX0.out⟩
        | true =>
          rw [q2] at HS
          cases q3 : decide ((c.loads.length : Int) ≤ 7) with
          | false =>
            rw [q3] at HS
            go_wp2
            go_ret
            exact ⟨by rw [HS.out] <;> rfl, HX0.out⟩
          | true =>
            rw [q3] at HS
            go_wp2
            go_ret
            exact ⟨by rw [HS.out] <;> rfl, HX0.out⟩

def someB (c : Roads) (l : List Int) : Bool := l.all (isStopB c)
set_option maxRecDepth 100000 in
set_option maxHeartbeats 2000000 in
theorem rsome_any (v hv : Value) (c : Roads) (l : List Int) (w : World) (hc : RoadsAt w v c) (hl : IntsAt w hv l) :
    Calls Tryz.prog 78 #[v, hv] w fun e w' => e = .returned (.bool (someB c l)) ∧ Ext w w' := by
  obtain ⟨lv, fv, rfl, hll, hff⟩ := hc
  obtain ⟨la, lk, rfl, l1, l2, _⟩ := hll.open
  obtain ⟨fa, fk, rfl, f1, f2, _⟩ := hff.open
  obtain ⟨a, k0, rfl, h1, h2, h3⟩ := hl.open
  have hx0 : Ext w (w.alloc (boxC c la fa lk fk)) := (Ext.refl w).alloc _
  have HX0 := Lib.hid hx0
  obtain ⟨c0, c1, c2⟩ := boxC_cells (World.alloc_heap_new w (boxC c la fa lk fk))
  have H3 := Lib.hid h3
  have hmix : Tryz.prog.follows .mixedOrders = true := by kernel_rfl
  clear hll hff h3 hx0 hl
  go_enter Tryz.func78, Tryz.ntmps78
  go_wp2
  have HW : Hid (w.alloc (boxC c la fa lk fk) = w.alloc (boxC c la fa lk fk)) := Lib.hid rfl
  generalize hW : w.alloc (boxC c la fa lk fk) = W at *
  go_loopw [5] (fun i wr => ∃ k : Nat, k ≤ l.length ∧ i = .int .i64 k ∧ Hid ((l.take k).all (isStopB c) = true) ∧ Ext W wr) (fun i _ => l.length - (intOf i).toNat)
  case atStart => exact ⟨0, Nat.zero_le _, rfl, by simp [Hid], Ext.refl _⟩
  case round =>
    obtain ⟨k, hk, rfl, hno, hxr⟩ := hrel
    by_cases hlt : k < l.length
    · obtain ⟨b, o, n, rfl, hnk, hcn⟩ := H3.out k hlt
      have d := (HX0.out.trans hxr).cell hcn
      have e0 := hxr.cell c0
      have x1 : decide ((k : Int) < (l.length : Int)) = true := by simpa using hlt
      have x4 : (k : Int) < (l.length : Int) := by omega
      have x7 : (0 : Int) ≤ (k : Int) := by omega
      clear hcn
      cases hq : isStopB c n with
      | false =>
        have HN : Hid (someB c l = false) := by
          unfold Hid someB
          have := all_at (isStopB c) hlt hnk.out hq
          rwa [List.take_of_length_le (Nat.le_refl _)] at this
        have HQ := Lib.hid (fun w1 => (show inB n 1 c.loads.length = false from hq) ▸ rin_same n 1 c.loads.length w1)
        clear hq
        go_upto_region 4 with fail
        go_quiet ((go_at_call 60; exact Calls.quiet_of_same (HQ.out _)))
        go_wp2
        go_ret
        exact ⟨by rw [HN.out] <;> rfl, (HX0.out.trans hxr).drewN _⟩
      | true =>
        have HN := Lib.hid (all_succ (isStopB c) hno.out hnk.out hq)
        have HQ := Lib.hid (fun w1 => (show inB n 1 c.loads.length = true from hq) ▸ rin_same n 1 c.loads.length w1)
        clear hq
        go_upto_region 4 with fail
        go_quiet ((go_at_call 60; exact Calls.quiet_of_same (HQ.out _)))
        go_wp2
        go_roundw
        case rel => exact ⟨k + 1, by omega, by go_num, HN, hxr.drewN _⟩
        case measure => simp [intOf]; omega
    · have HN : Hid (someB c l = true) := by
        have h := hno.out
        rw [List.take_of_length_le (by omega)] at h
        exact h
      have x1 : decide ((k : Int) < (l.length : Int)) = false := by simpa using hlt
      go_wp2
      go_ret
      exact ⟨by rw [HN.out] <;> rfl, HX0.out.trans hxr⟩
theorem some_stop {c : Roads} {l : List Int} (h : someB c l = true) : ∀ n, n ∈ l → 1 ≤ n ∧ n ≤ c.loads.length := by
  intro n hn
  unfold someB at h
  exact inB_iff.1 (List.all_eq_true.1 h n hn)

def riseAt (l : List Int) (i : Nat) : Bool := decide (l.getD (i + 1) 0 ≤ l.getD i 0)
def risingB (l : List Int) : Bool := !(List.range (l.length - 1)).any (riseAt l)
end Go.Proofs.YtapkbonlijhmjaaGreatDoor
