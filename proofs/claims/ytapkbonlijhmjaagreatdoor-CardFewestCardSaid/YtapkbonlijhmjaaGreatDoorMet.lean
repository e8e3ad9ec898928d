/- Plans, counted: which houses were met (plain), and card.Keeps' inner functions. -/
import Derived.Test.YtapkbonlijhmjaaGreatDoorFewp
import Derived.Test.YtapkbonlijhmjaaGreatDoorLsome
import Derived.Test.YtapkbonlijhmjaaGreatDoorHeavy
import Derived.Test.YtapkbonlijhmjaaGreatDoorRbetter
import Derived.Test.YtapkbonlijhmjaaGreatDoorDeep
namespace Go.Proofs.YtapkbonlijhmjaaGreatDoor
open Go.RowKit

/-! ### Plain -/
def metB (F : List Int) (n : Nat) : List Bool := (List.range n).map fun (i : Nat) => decide ((i : Int) + 1 ∈ F)
theorem metB_at {F : List Int} {n i : Nat} (h : i < n) : (metB F n)[i]? = some (decide ((i : Int) + 1 ∈ F)) := by simp [metB, h]
theorem metB_len (F : List Int) (n : Nat) : (metB F n).length = n := by simp [metB]
theorem metB_set {F : List Int} {n m : Nat} : (metB F n).set m true = metB (F ++ [(m : Int) + 1]) n := by
  refine List.ext_getElem? fun i => ?_
  by_cases hi : i < n
  · rw [List.getElem?_set, metB_at hi, metB_at hi, metB_len]
    by_cases e : m = i
    · subst e; simp [hi]
    · rw [if_neg e]
      congr 1
      have : ¬ (i : Int) + 1 = (m : Int) + 1 := by omega
      simp [this]
  · rw [List.getElem?_eq_none (by rw [List.length_set, metB_len]; omega), List.getElem?_eq_none (by rw [metB_len]; omega)]
def metN (F : List Int) (n : Nat) : List Int := (List.range n).map fun (i : Nat) => (F.count (i : Int) : Int)
theorem metN_at {F : List Int} {n i : Nat} (h : i < n) : (metN F n)[i]? = some (F.count (i : Int) : Int) := by simp [metN, h]
theorem metN_len (F : List Int) (n : Nat) : (metN F n).length = n := by simp [metN]
theorem metN_set {F : List Int} {n m : Nat} : (metN F n).set m ((F.count (m : Int) : Int) + 1) = metN (F ++ [(m : Int)]) n := by
  refine List.ext_getElem? fun i => ?_
  by_cases hi : i < n
  · rw [List.getElem?_set, metN_at hi, metN_at hi, metN_len, List.count_append]
    by_cases e : m = i
    · subst e; simp [hi]
    · rw [if_neg e]
      congr 1
      have : ¬ (m : Int) = (i : Int) := by omega
      simp [this]
  · rw [List.getElem?_eq_none (by rw [List.length_set, metN_len]; omega), List.getElem?_eq_none (by rw [metN_len]; omega)]
theorem flat_take {P : List (List Int)} {k : Nat} {l : List Int} (h : P[k]? = some l) : (P.take (k + 1)).flatten = (P.take k).flatten ++ l := by
  rw [List.take_add_one, h]; simp
theorem flat_sub {P : List (List Int)} {k : Nat} {l : List Int} (h : P[k]? = some l) (j : Nat) : ((P.take k).flatten ++ l.take j).Sublist P.flatten := by
  have h1 : ((P.take k).flatten ++ l.take j).Sublist ((P.take (k + 1)).flatten) := by
    rw [flat_take h]; exact List.Sublist.append_left (List.take_sublist j l) _
  refine h1.trans ?_
  conv => rhs; rw [← List.take_append_drop (k + 1) P]
  rw [List.flatten_append]
  exact List.sublist_append_left _ _
theorem plan_no_empty {c : Roads} {P : List (List Int)} {l : List Int} (hl : l ∈ P) (he : l.length = 0) : isPlanB c P = false := by
  unfold isPlanB
  have : (P.all fun l => !l.isEmpty && decide (loadOf c l ≤ c.bears)) = false := by
    rw [List.all_eq_false]
    exact ⟨l, hl, by rw [List.length_eq_zero_iff.1 he]; simp⟩
  rw [this]; rfl
theorem plan_no_heavy {c : Roads} {P : List (List Int)} {l : List Int} (hl : l ∈ P) (he : c.bears < loadOf c l) : isPlanB c P = false := by
  unfold isPlanB
  have : (P.all fun l => !l.isEmpty && decide (loadOf c l ≤ c.bears)) = false := by
    rw [List.all_eq_false]
    refine ⟨l, hl, ?_⟩
    have : ¬ loadOf c l ≤ c.bears := by omega
    simp [this]
  rw [this]; rfl
theorem plan_no_twice {c : Roads} {P : List (List Int)} (h : ¬ P.flatten.Nodup) : isPlanB c P = false := by
  unfold isPlanB; rw [decide_eq_false h]; simp
theorem plan_no_len {c : Roads} {P : List (List Int)} (h : ¬ P.flatten.length = c.loads.length) : isPlanB c P = false := by
  unfold isPlanB; rw [decide_eq_false h]; simp
theorem plan_yes {c : Roads} {P : List (List Int)} (h1 : ∀ l, l ∈ P → l.length ≠ 0) (h2 : ∀ l, l ∈ P → loadOf c l ≤ c.bears) (h3 : P.flatten.Nodup) (h4 : P.flatten.length = c.loads.length) : isPlanB c P = true := by
  unfold isPlanB
  rw [decide_eq_true h3, decide_eq_true h4, Bool.and_true, Bool.and_true, List.all_eq_true]
  intro l hl
  have h5 := h1 l hl
  have h6 := h2 l hl
  cases l with
  | nil => exact absurd rfl h5
  | cons x l => simp [h6]
theorem plan_counts {c : Roads} {P : List (List Int)} (hs : StopsOk c P) (h : isPlanB c P = true) (i : Nat) (h1 : 1 ≤ i) (h2 : i ≤ c.loads.length) : P.flatten.count (i : Int) = 1 := by
  obtain ⟨j, hj⟩ := plan_all hs h i (by omega) (by omega)
  have hm : (i : Int) ∈ P.flatten := by
    rw [List.mem_flatten]
    rw [List.getD_eq_getElem?_getD] at hj
    cases hq : P[j]? with
    | none => rw [hq] at hj; simp at hj
    | some l => rw [hq] at hj; exact ⟨l, List.mem_of_getElem? hq, hj⟩
  unfold isPlanB at h
  simp only [Bool.and_eq_true, decide_eq_true_eq] at h
  have h3 := List.nodup_iff_count.1 h.1.2 (i : Int)
  have h4 := List.count_pos_iff.2 hm
  omega
theorem plan_of_counts {c : Roads} {P : List (List Int)} (hs : StopsOk c P) (h1 : ∀ l, l ∈ P → l.length ≠ 0) (h2 : ∀ l, l ∈ P → loadOf c l ≤ c.bears) (h : ∀ i : Nat, 1 ≤ i → i ≤ c.loads.length → P.flatten.count (i : Int) = 1) : isPlanB c P = true := by
  have hst : ∀ n, n ∈ P.flatten → 1 ≤ n ∧ n ≤ c.loads.length := fun n hn => by
    obtain ⟨l, hl, hn⟩ := List.mem_flatten.1 hn
    exact hs l hl n hn
  have hd : P.flatten.Nodup := by
    rw [List.nodup_iff_count]
    intro a
    by_cases ha : a ∈ P.flatten
    · obtain ⟨q1, q2⟩ := hst a ha
      obtain ⟨i, rfl⟩ : ∃ i : Nat, a = i := ⟨a.toNat, by omega⟩
      rw [h i (by omega) (by omega)]; omega
    · rw [List.count_eq_zero.2 ha]; omega
  have hu : (upto c.loads.length).Nodup := by
    unfold upto
    rw [List.Nodup, List.pairwise_map]
    exact List.nodup_range.imp (fun h e => h (by omega))
  have hp : P.flatten.Perm (upto c.loads.length) := by
    refine (List.perm_ext_iff_of_nodup hd hu).2 fun a => ⟨fun ha => ?_, fun ha => ?_⟩
    · obtain ⟨q1, q2⟩ := hst a ha
      obtain ⟨i, hi⟩ : ∃ i : Nat, a = (i : Int) + 1 := ⟨(a - 1).toNat, by omega⟩
      subst hi
      exact List.mem_of_getElem? (upto_at (by omega))
    · obtain ⟨i, hi, rfl⟩ := List.mem_map.1 ha
      have hi := List.mem_range.1 hi
      have := h (i + 1) (by omega) (by omega)
      refine List.count_pos_iff.1 ?_
      rw [Int.natCast_add] at this
      have e : ((i : Int) + ((1 : Nat) : Int)) = (i : Int) + 1 := rfl
      rw [e] at this
      omega
  exact plan_yes h1 h2 hd (by rw [hp.length_eq, upto_len])

/-! ### The closures of card.Keeps -/
def badB (c : Roads) (l : List Int) : Bool := l.any fun n => !isStopB c n
theorem bad_some (c : Roads) (P : List (List Int)) : P.any (badB c) = !someP c P := by
  unfold badB someP someB
  rw [Bool.eq_iff_iff]
  simp
theorem enters_keeps1 : ∀ args w, (callFunc 71 args).run Tryz.prog w = .ok (.enter 71 args) w := enters_of Tryz.func71 (by kernel_rfl) rfl
theorem enters_keeps11 : ∀ args w, (callFunc 73 args).run Tryz.prog w = .ok (.enter 73 args) w := enters_of Tryz.func73 (by kernel_rfl) rfl
theorem enters_keeps2 : ∀ args w, (callFunc 76 args).run Tryz.prog w = .ok (.enter 76 args) w := enters_of Tryz.func76 (by kernel_rfl) rfl
def BoxAt (c : Roads) (la fa : Option Addr) (lk fk cb : Nat) (W : World) : Prop := W.cell? ⟨cb, 0, none⟩ = some (.slice la c.loads.length lk) ∧ W.cell? ⟨cb, 1, none⟩ = some (.int .i64 c.bears) ∧ W.cell? ⟨cb, 2, none⟩ = some (.slice fa c.far.length fk)
theorem BoxAt.ext {c : Roads} {la fa : Option Addr} {lk fk cb : Nat} {W W' : World} (h : BoxAt c la fa lk fk cb W) (k : Ext W W') : BoxAt c la fa lk fk cb W' := ⟨k.cell h.1, k.cell h.2.1, k.cell h.2.2⟩
theorem keeps11_any (c : Roads) (la fa : Option Addr) (lk fk cb : Nat) (n : Int) (w : World) (hR : RoadsAt w (.agg #[.slice la c.loads.length lk, .int .i64 c.bears, .slice fa c.far.length fk]) c) (hb : BoxAt c la fa lk fk cb w) :
    Calls Tryz.prog 73 #[.int .i64 n, .pointer (some ⟨cb, 0, none⟩)] w fun e w' => e = .returned (.bool (!isStopB c n)) ∧ Ext w w' := by
  have HS := Lib.hid (isStop_any _ c n w hR)
  obtain ⟨c0, c1, c2⟩ := hb
  clear hR
  go_enter Tryz.func73, Tryz.ntmps73
  go_wp2_with (go_at_call 74; refine HS.out.mono ?_; rintro e w' ⟨rfl, hx⟩)
  go_ret
  exact ⟨rfl, hx⟩
theorem keeps1_any (c : Roads) (la fa : Option Addr) (lk fk cb : Nat) (v : Value) (l : List Int) (w : World) (hl : IntsAt w v l) (hR : RoadsAt w (.agg #[.slice la c.loads.length lk, .int .i64 c.bears, .slice fa c.far.length fk]) c) (hb : BoxAt c la fa lk fk cb w) :
    Calls Tryz.prog 71 #[v, .pointer (some ⟨cb, 0, none⟩)] w fun e w' => e = .returned (.bool (badB c l)) ∧ Ext w w' := by
  have HC := Lib.hid (containsFuncI v 73 #[.pointer (some ⟨cb, 0, none⟩)] (fun n => !isStopB c n) l w hl (fun x _ w1 hx => keeps11_any c la fa lk fk cb x w1 (hR.ext hx) (hb.ext hx)) enters_keeps11)
  obtain ⟨a, k, rfl, _⟩ := hl.open
  clear hR hl hb
  go_enter Tryz.func71, Tryz.ntmps71
  go_wp2_with (go_at_call 72; refine HC.out.mono ?_; rintro e w' ⟨rfl, hx⟩)
  go_ret
  exact ⟨rfl, hx⟩
theorem keepsBad_any (c : Roads) (la fa : Option Addr) (lk fk cb : Nat) (pv : Value) (P : List (List Int)) (w : World) (hP : RowsAt w pv P) (hR : RoadsAt w (.agg #[.slice la c.loads.length lk, .int .i64 c.bears, .slice fa c.far.length fk]) c) (hb : BoxAt c la fa lk fk cb w) :
    Calls Tryz.prog 70 #[pv, .func (.func 71) #[] #[.pointer (some ⟨cb, 0, none⟩)]] w fun e w' => e = .returned (.bool (!someP c P)) ∧ Ext w w' := by
  rw [← bad_some]
  exact containsFuncR pv 71 #[.pointer (some ⟨cb, 0, none⟩)] (badB c) P w hP (fun xs _ x w1 hx hxs => keeps1_any c la fa lk fk cb x xs w1 hxs (hR.ext hx) (hb.ext hx)) enters_keeps1

/-! ### try, whatever the closure has done -/
theorem try_gen (f : Nat) (cap : Array Value) (ef : ∀ args w, (callFunc f args).run Tryz.prog w = .ok (.enter f args) w) (w : World) (R : World → Prop) (hR : ∀ w', R w' → w'.cell? ⟨w.heap.size, 0, none⟩ = some (.bool false) ∧ w'.frozen? ⟨w.heap.size, 0, none⟩ = false)
    (hc : Calls Tryz.prog f cap (w.alloc (.cells #[.bool false] 4)) fun e w' => e = .returned (.tuple #[]) ∧ R w') :
    Calls Tryz.prog 75 #[.func (.func f) #[] cap] w fun e w' => e = .returned (.bool true) ∧ ∃ w2, R w2 ∧ w' = w2.setCell ⟨w.heap.size, 0, none⟩ (.bool true) := by
  have hmf : ∀ (fn : Fn) (first cap : Array Value) (w : World), (Instr.makeFunc fn first cap).run Tryz.prog w = .ok (.func fn first cap) w := fun _ _ _ _ => rfl
  have HC := Lib.hid hc
  have HRR := Lib.hid hR
  clear hc hR
  go_enter_defers Tryz.func75, Tryz.ntmps75
  go_wp2_with (refine HC.out.mono ?_; rintro e w1 ⟨rfl, hr⟩; obtain ⟨q0, g0⟩ := HRR.out w1 hr)
  refine leaves_cons (f := 118) (args := #[.pointer (some ⟨w.heap.size, 0, none⟩)]) (by simp) (by simp [go_sem]) ?_
  refine (try1_idle _ _).mono ?_
  rintro e u' w'' ⟨rfl, rfl, rfl⟩
  have q1 : (w1.setCell ⟨w.heap.size, 0, none⟩ (.bool true)).cell? ⟨w.heap.size, 0, none⟩ = some (.bool true) := World.cell?_setCell_same _ _ _ q0
  simp [Leaves, settle, results, Tryz.results75, go_sem, q1]
  exact ⟨w1, hr, rfl⟩
theorem try_gen_heavy (f : Nat) (cap : Array Value) (ef : ∀ args w, (callFunc f args).run Tryz.prog w = .ok (.enter f args) w) (w w0 : World) (hw : Ext w0 w) (R : World → Prop) (hR : ∀ w', R w' → Ext w0 w' ∧ w'.cell? ⟨w.heap.size, 0, none⟩ = some (.bool false) ∧ w'.frozen? ⟨w.heap.size, 0, none⟩ = false)
    (hc : Calls Tryz.prog f cap (w.alloc (.cells #[.bool false] 4)) fun e w' => ∃ n : Int, e = .panicked [{ v := heavyV n, recovered := false }] ∧ R w') :
    Calls Tryz.prog 75 #[.func (.func f) #[] cap] w fun e w' => e = .returned (.bool false) ∧ Ext w0 w' := by
  have hmf : ∀ (fn : Fn) (first cap : Array Value) (w : World), (Instr.makeFunc fn first cap).run Tryz.prog w = .ok (.func fn first cap) w := fun _ _ _ _ => rfl
  have HC := Lib.hid hc
  have HRR := Lib.hid hR
  have HW := Lib.hid hw
  clear hc hR hw
  go_enter_defers Tryz.func75, Tryz.ntmps75
  go_wp2_with (refine HC.out.mono ?_; rintro e w1 ⟨n, rfl, hr⟩; obtain ⟨hx1, q0, g0⟩ := HRR.out w1 hr)
  refine leaves_cons (f := 118) (args := #[.pointer (some ⟨w.heap.size, 0, none⟩)]) (by simp) (by simp [go_sem]) ?_
  refine (try1_heavy w.heap.size n w1 false q0 g0).mono ?_
  rintro e u' w'' ⟨rfl, rfl, rfl⟩
  have hxa : Ext w0 ((w1.alloc (.cells #[.int .i64 n] 156)).setCell ⟨w.heap.size, 0, none⟩ (.bool false)) := (hx1.alloc _).setCell HW.out.size _
  have q1 : ((w1.alloc (.cells #[.int .i64 n] 156)).setCell ⟨w.heap.size, 0, none⟩ (.bool false)).cell? ⟨w.heap.size, 0, none⟩ = some (.bool false) := World.cell?_setCell_same _ _ _ (((Ext.refl w1).alloc _).cell q0)
  simp [Leaves, settle, results, Tryz.results75, go_sem, q1]
  exact hxa
end Go.Proofs.YtapkbonlijhmjaaGreatDoor
