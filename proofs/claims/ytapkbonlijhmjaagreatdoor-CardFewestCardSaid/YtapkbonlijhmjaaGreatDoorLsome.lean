/- The law's lists and some. -/
import Derived.Test.YtapkbonlijhmjaaGreatDoorRroads
namespace Go.Proofs.YtapkbonlijhmjaaGreatDoor
open Go.RowKit

def row7 (l : List Int) : Bool := decide ((l.length : Int) ≤ 7)
def listsB (P : List (List Int)) : Bool := (P.take 8).all row7 && decide ((P.length : Int) ≤ 7)
theorem lists_bd {P : List (List Int)} (h : listsB P = true) : P.length ≤ 7 ∧ ∀ l, l ∈ P → l.length ≤ 7 := by
  simp only [listsB, Bool.and_eq_true, decide_eq_true_eq] at h
  obtain ⟨h1, h2⟩ := h
  rw [List.take_of_length_le (by omega), List.all_eq_true] at h1
  refine ⟨by omega, fun l hl => ?_⟩
  have := h1 l hl
  simp only [row7, decide_eq_true_eq] at this
  omega
theorem lists_of {P : List (List Int)} (h : P.length ≤ 7) (k : ∀ l, l ∈ P → l.length ≤ 7) : listsB P = true := by
  simp only [listsB, Bool.and_eq_true, decide_eq_true_eq, List.all_eq_true]
  refine ⟨fun l hl => ?_, by omega⟩
  have := k l (List.mem_of_mem_take hl)
  simp only [row7, decide_eq_true_eq]
  omega
def someP (c : Roads) (P : List (List Int)) : Bool := P.all (someB c)
theorem someP_stop {c : Roads} {P : List (List Int)} (h : someP c P = true) : ∀ l, l ∈ P → ∀ n, n ∈ l → 1 ≤ n ∧ n ≤ c.loads.length := by
  unfold someP at h
  rw [List.all_eq_true] at h
  exact fun l hl => some_stop (h l hl)
theorem someP_of {c : Roads} {P : List (List Int)} (h : ∀ l, l ∈ P → ∀ n, n ∈ l → 1 ≤ n ∧ n ≤ c.loads.length) : someP c P = true := by
  unfold someP someB isStopB
  rw [List.all_eq_true]
  intro l hl
  rw [List.all_eq_true]
  exact fun n hn => inB_iff.2 (h l hl n hn)
set_option maxRecDepth 100000 in
set_option maxHeartbeats 2000000 in
theorem lists_any (v : Value) (P : List (List Int)) (w : World) (hP : RowsAt w v P) :
    Calls Tryz.prog 21 #[v] w fun e w' => e = .returned (.bool (listsB P)) ∧ Ext w w' := by
  obtain ⟨fa, fk, rfl, f1, f2, f3⟩ := hP.open
  have F3 := Lib.hid f3
  clear f3 hP
  go_enter Tryz.func21, Tryz.ntmps21
  go_wp2
  go_loopw [3] (fun i wr => ∃ k : Nat, k ≤ P.length ∧ k ≤ 8 ∧ i = .int .i64 k ∧ Hid ((P.take k).all row7 = true) ∧ w = wr) (fun i _ => P.length - (intOf i).toNat)
  case atStart => exact ⟨0, Nat.zero_le _, by omega, rfl, by simp [Hid], rfl⟩
  case round =>
    obtain ⟨k, hk, hk9, rfl, hno, rfl⟩ := hrel
    by_cases hlt : k < P.length ∧ k < 8
    · obtain ⟨b, o, x, xs, rfl, hxk, hcx, hxs⟩ := F3.out k hlt.1
      obtain ⟨a3, k3, rfl, g1, g2, _⟩ := hxs.open
      have x1 : decide ((k : Int) < (P.length : Int)) = true := by simpa using hlt.1
      have x2 : decide ((k : Int) < 8) = true := by simp; omega
      have x3 : k < P.length := hlt.1
      have x4 : (k : Int) < (P.length : Int) := by omega
      obtain ⟨hlt1, hlt2⟩ := hlt
      clear hxs
      cases hq : row7 xs with
      | false =>
        have HN : Hid (listsB P = false) := by unfold Hid listsB; rw [all_at row7 hlt2 hxk.out hq]; rfl
        unfold row7 at hq
        have x5 : decide ((7 : Int) < (xs.length : Int)) = true := by simp only [decide_eq_false_iff_not] at hq; simp; omega
        clear hq
        go_wp2
        go_ret
        exact ⟨by rw [HN.out] <;> rfl, Ext.refl _⟩
      | true =>
        have HN := Lib.hid (all_succ row7 hno.out hxk.out hq)
        unfold row7 at hq
        have x5 : decide ((7 : Int) < (xs.length : Int)) = false := by simp only [decide_eq_true_eq] at hq; simp; omega
        clear hq
        go_wp2
        go_roundw
        case rel => exact ⟨k + 1, by omega, by omega, by go_num, HN, by trivial⟩
        case measure => simp [intOf]; omega
    · have HN : Hid ((P.take 8).all row7 = true) := by
        have h := hno.out
        by_cases q : k = 8
        · subst q; exact h
        · rw [List.take_of_length_le (by omega)] at h
          unfold Hid
          rw [List.all_eq_true] at h ⊢
          intro x hx
          exact h x (List.mem_of_mem_take hx)
      have HS : Hid (listsB P = decide ((P.length : Int) ≤ 7)) := by unfold Hid listsB; rw [HN.out]; rfl
      by_cases q1 : k < P.length
      · have x1 : decide ((k : Int) < (P.length : Int)) = true := by simpa using q1
        have x2 : decide ((k : Int) < 8) = false := by simp; omega
        go_wp2
        go_ret
        exact ⟨by rw [HS.out] <;> rfl, Ext.refl _⟩
      · have x1 : decide ((k : Int) < (P.length : Int)) = false := by simpa using q1
        go_wp2
        go_ret
        exact ⟨by rw [HS.out] <;> rfl, Ext.refl _⟩
set_option maxRecDepth 100000 in
set_option maxHeartbeats 4000000 in
theorem lsome_any (v pv : Value) (c : Roads) (P : List (List Int)) (w : World) (hc : RoadsAt w v c) (hP : RowsAt w pv P) :
    Calls Tryz.prog 23 #[v, pv] w fun e w' => e = .returned (.bool (someP c P)) ∧ Ext w w' := by
  have hc' := hc
  have HSM := Lib.hid (fun w1 (hx : Ext w w1) u l (hu : IntsAt w1 u l) => rsome_any _ u c l w1 (hc'.ext hx) hu)
  obtain ⟨lv, fv, rfl, hll, hff⟩ := hc
  obtain ⟨la, lk, rfl, l1, l2, _⟩ := hll.open
  obtain ⟨fa, fk, rfl, f1, f2, _⟩ := hff.open
  obtain ⟨pa, pk, rfl, p1, p2, p3⟩ := hP.open
  have hx0 : Ext w (w.alloc (boxC c la fa lk fk)) := (Ext.refl w).alloc _
  have HX0 := Lib.hid hx0
  have HBC := Lib.hid (fun W (h : Ext (w.alloc (boxC c la fa lk fk)) W) => boxC_cells ((h.block (by simp)).trans (World.alloc_heap_new w (boxC c la fa lk fk))))
  have P3 := Lib.hid p3
  have hmix : Tryz.prog.follows .mixedOrders = true := by kernel_rfl
  clear hll hff p3 hx0 hP hc'
  go_enter Tryz.func23, Tryz.ntmps23
  go_wp2
  go_loopw [5] (fun i wr => ∃ k : Nat, k ≤ P.length ∧ i = .int .i64 k ∧ Hid ((P.take k).all (someB c) = true) ∧ Ext (w.alloc (boxC c la fa lk fk)) wr) (fun i _ => P.length - (intOf i).toNat)
  case atStart => exact ⟨0, Nat.zero_le _, rfl, by simp [Hid], Ext.refl _⟩
  case round =>
    obtain ⟨k, hk, rfl, hno, hxr⟩ := hrel
    have hxw := HX0.out.trans hxr
    by_cases hlt : k < P.length
    · obtain ⟨b, o, x, xs, rfl, hxk, hcx, hxs⟩ := P3.out k hlt
      have HXS := Lib.hid (hxs.ext hxw)
      obtain ⟨a3, k3, rfl, g1, g2, _⟩ := hxs.open
      have d := hxw.cell hcx
      obtain ⟨z0, z1, z2⟩ := HBC.out _ hxr
      have HS : Hid (∀ W1, Ext wr W1 → W1.cell? ⟨w.heap.size, 0, none⟩ = some (.slice la c.loads.length lk) ∧ W1.cell? ⟨w.heap.size, 1, none⟩ = some (.int .i64 c.bears) ∧ W1.cell? ⟨w.heap.size, 2, none⟩ = some (.slice fa c.far.length fk) ∧ W1.cell? ⟨b, o + k, none⟩ = some (.slice a3 xs.length k3)) := fun W1 h => ⟨h.cell z0, h.cell z1, h.cell z2, h.cell d⟩
      have x1 : decide ((k : Int) < (P.length : Int)) = true := by simpa using hlt
      have x4 : (k : Int) < (P.length : Int) := by omega
      have x7 : (0 : Int) ≤ (k : Int) := by omega
      have HX := Lib.hid hxw
      clear hcx hxs
      cases hq : someB c xs with
      | false =>
        have HN : Hid (someP c P = false) := by
          have := all_at (someB c) hlt hxk.out hq
          rwa [List.take_of_length_le (Nat.le_refl _)] at this
        have HSQ := Lib.hid (fun w1 hx u hu => hq ▸ HSM.out w1 hx u xs hu)
        clear hq
        go_upto_region 4 with fail
        go_region_held3 (fun w' => w'.cell? ⟨w.heap.size, 0, none⟩ = some (.slice la c.loads.length lk) ∧ w'.cell? ⟨w.heap.size, 1, none⟩ = some (.int .i64 c.bears) ∧ w'.cell? ⟨w.heap.size, 2, none⟩ = some (.slice fa c.far.length fk) ∧ w'.cell? ⟨b, o + k, none⟩ = some (.slice a3 xs.length k3))
          (first | go_keep | exact HS.out _ hx2)
          (first | (go_at_call 78; refine (HSQ.out _ HX.out.drew _ (HXS.out.ext (Ext.refl wr).drew)).mono ?_; rintro e w2 ⟨rfl, hx2'⟩; have hx2 : Ext wr w2 := ((Ext.refl wr).drew).trans hx2'))
        go_wp2
        go_ret
        exact ⟨by rw [HN.out] <;> rfl, hxw.trans hx2⟩
      | true =>
        have HN := Lib.hid (all_succ (someB c) hno.out hxk.out hq)
        have HSQ := Lib.hid (fun w1 hx u hu => hq ▸ HSM.out w1 hx u xs hu)
        clear hq
        go_upto_region 4 with fail
        go_region_held3 (fun w' => w'.cell? ⟨w.heap.size, 0, none⟩ = some (.slice la c.loads.length lk) ∧ w'.cell? ⟨w.heap.size, 1, none⟩ = some (.int .i64 c.bears) ∧ w'.cell? ⟨w.heap.size, 2, none⟩ = some (.slice fa c.far.length fk) ∧ w'.cell? ⟨b, o + k, none⟩ = some (.slice a3 xs.length k3))
          (first | go_keep | exact HS.out _ hx2)
          (first | (go_at_call 78; refine (HSQ.out _ HX.out.drew _ (HXS.out.ext (Ext.refl wr).drew)).mono ?_; rintro e w2 ⟨rfl, hx2'⟩; have hx2 : Ext wr w2 := ((Ext.refl wr).drew).trans hx2'))
        go_wp2
        go_roundw
        case rel => exact ⟨k + 1, by omega, by go_num, HN, hxr.trans hx2⟩
        case measure => simp [intOf]; omega
    · have HN : Hid (someP c P = true) := by
        have h := hno.out
        rw [List.take_of_length_le (by omega)] at h
        exact h
      have x1 : decide ((k : Int) < (P.length : Int)) = false := by simpa using hlt
      go_wp2
      go_ret
      exact ⟨by rw [HN.out] <;> rfl, hxw⟩
end Go.Proofs.YtapkbonlijhmjaaGreatDoor
