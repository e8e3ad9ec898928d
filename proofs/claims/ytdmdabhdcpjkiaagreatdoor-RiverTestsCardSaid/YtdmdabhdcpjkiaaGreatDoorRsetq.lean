/- The reference's Count. -/
import Derived.Test.YtdmdabhdcpjkiaaGreatDoorPlainq
import Derived.Test.YtdmdabhdcpjkiaaGreatDoorRefa
import Derived.Test.YtdmdabhdcpjkiaaGreatDoorStateb
import Derived.Test.YtdmdabhdcpjkiaaGreatDoorReads
import Derived.Test.YtdmdabhdcpjkiaaGreatDoorRtwoq
namespace Go.Proofs.YtdmdabhdcpjkiaaGreatDoor
open Go.RowKit
theorem count_half : ∀ q, q < 16 → countB 4 q = q % 2 + countB 4 (q / 2) := by decide +kernel
set_option maxRecDepth 100000 in
set_option maxHeartbeats 2000000 in
theorem rcount_any (p : Nat) (w : World) (hp : p < 16) :
  Calls Tryz.prog 61 #[.int .i64 (p : Int)] w fun e w' => e = .returned (.int .i64 (manyB p : Int)) ∧ Ext w w' := by
 rw [← count_many p hp]
 have HC := Lib.hid (manyB_le p)
 rw [← count_many p hp] at HC
 generalize hm : countB 4 p = m at HC ⊢
 have HM := Lib.hid hm
 clear hm
 go_enter Tryz.func61, Tryz.ntmps61
 go_wp2
 go_loopw [0, 3] (fun a o wr => ∃ q n : Nat, q < 16 ∧ a = .int .i64 (q : Int) ∧ o = .int .i64 (n : Int) ∧ Hid (n + countB 4 q = m) ∧ Ext w wr) (fun a _ _ => (intOf a).toNat)
 case atStart => exact ⟨p, 0, hp, rfl, rfl, by unfold Hid; rw [HM.out]; omega, Ext.refl _⟩
 case round =>
  obtain ⟨q, n, hq, rfl, rfl, hn, hx⟩ := hrel
  by_cases h0 : q = 0
  ·subst h0
   have x1 : decide ((0 : Int) < ((0 : Nat) : Int)) = false := rfl
   go_wp2
   go_ret
   exact ⟨by have := hn.out; rw [← this]; rfl, hx⟩
  ·have x1 : decide ((0 : Int) < (q : Int)) = true := by simp; omega
   go_wp2
   have hh := count_half q hq
   have h1 := hn.out
   have h2 := HC.out
   refine ⟨⟨q / 2, n + q % 2, by omega, by first | go_num | (congr 1; omega), by rw [IntWalk.wrap64_in _ (by omega)]; congr 1, by unfold Hid; omega, hx⟩, by simp [intOf]; omega⟩
/-- Whether some pattern has the property, among the first. -/
def anyTo (f : Nat → Bool) (l : List Nat) (k : Nat) : Bool := (List.range k).any fun p => decide (p ∈ l) && f p
theorem anyTo_succ (f : Nat → Bool) (l : List Nat) (k : Nat) : anyTo f l (k + 1) = (anyTo f l k || (decide (k ∈ l) && f k)) := by unfold anyTo; rw [List.range_succ, List.any_append]; simp
theorem anyTo_all {f : Nat → Bool} {l : List Nat} {n : Nat} (hl : ∀ p, p ∈ l → p < n) : anyTo f l n = l.any f := by
 unfold anyTo
 rw [Bool.eq_iff_iff, List.any_eq_true, List.any_eq_true]
 constructor
 ·rintro ⟨p, _, h⟩
  rw [Bool.and_eq_true, decide_eq_true_eq] at h
  exact ⟨p, h.1, h.2⟩
 ·rintro ⟨p, hp, h⟩
  exact ⟨p, List.mem_range.2 (hl p hp), by rw [Bool.and_eq_true, decide_eq_true_eq]; exact ⟨hp, h⟩⟩
end Go.Proofs.YtdmdabhdcpjkiaaGreatDoor

/- The reference's decided. -/
namespace Go.Proofs.YtdmdabhdcpjkiaaGreatDoor
open Go.RowKit
/-- Marks, in memory. -/
def MarksAt (w : World) (v : Value) (n : Nat) (l : List Nat) : Prop := RowAt w v n ((marksOf n l).map .bool)
theorem MarksAt.ext {w w' : World} {v : Value} {n : Nat} {l : List Nat} (h : MarksAt w v n l) (k : Ext w w') : MarksAt w' v n l := RowAt.ext h k
theorem MarksAt.open {w : World} {v : Value} {n : Nat} {l : List Nat} (h : MarksAt w v n l) : ∃ a c, v = .slice a n c ∧ n ≤ c ∧ c ≤ 9223372036854775807 ∧ ∀ i, i < n → ∃ b o, a = some ⟨b, o, none⟩ ∧ w.cell? ⟨b, o + i, none⟩ = some (.bool (decide (i ∈ l))) := by
 obtain ⟨a, c, hv, h1, h2, h3⟩ := RowAt.open h
 refine ⟨a, c, hv, h1, h2, fun i hi => ?_⟩
 exact h3 i _ (by rw [List.getElem?_map, marks_at hi]; rfl)
set_option maxRecDepth 100000 in
set_option maxHeartbeats 2000000 in
theorem rdecided_any (v : Value) (n : Nat) (l : List Nat) (least : Int) (w : World) (hv : MarksAt w v n l) (hl : ∀ p, p ∈ l → p < n) (hn : n ≤ 16) :
  Calls Tryz.prog 51 #[v, .int .i64 least] w fun e w' => e = .returned (.bool (knownB least l)) ∧ Ext w w' := by
 obtain ⟨a, c, rfl, h1, h2, h3⟩ := hv.open
 have H3 := Lib.hid h3
 have HA1 := Lib.hid (anyTo_all (f := fun p => decide (least ≤ manyB p)) hl)
 have HA2 := Lib.hid (anyTo_all (f := fun p => decide ((manyB p : Int) < least)) hl)
 clear hv h3 hl
 go_enter Tryz.func51, Tryz.ntmps51
 go_wp2
 go_loopw [5, 6, 7] (fun x y i wr => ∃ (k : Nat) (s t : Bool), k ≤ n ∧ i = .int .i64 (k : Int) ∧ x = .bool s ∧ y = .bool t ∧ Hid (anyTo (fun p => decide (least ≤ manyB p)) l k = s) ∧ Hid (anyTo (fun p => decide ((manyB p : Int) < least)) l k = t) ∧ Ext w wr) (fun _ _ i _ => n - (intOf i).toNat)
 case atStart => exact ⟨0, false, false, Nat.zero_le _, rfl, rfl, rfl, rfl, rfl, Ext.refl _⟩
 case round =>
  obtain ⟨k, s, t, hk, rfl, rfl, rfl, hs, ht, hx⟩ := hrel
  by_cases hlt : k < n
  ·obtain ⟨b, o, rfl, hc⟩ := H3.out k hlt
   have x1 : decide ((k : Int) < (n : Int)) = true := by simpa using hlt
   have i1 : (0 : Int) ≤ (k : Int) := by omega
   have i2 : (k : Int) < (n : Int) := by omega
   have hcx := hx.cell hc
   have e1 := anyTo_succ (fun p => decide (least ≤ manyB p)) l k
   have e2 := anyTo_succ (fun p => decide ((manyB p : Int) < least)) l k
   rw [hs.out] at e1
   rw [ht.out] at e2
   have HX := Lib.hid hx
   have HCN := Lib.hid (fun W => rcount_any k W (by omega))
   cases hm : decide (k ∈ l) with
   | false =>
    rw [hm] at hcx e1 e2
    rw [Bool.false_and, Bool.or_false] at e1 e2
    have E1 := Lib.hid e1
    have E2 := Lib.hid e2
    clear e1 e2 hm hc hx hs ht
    go_wp2
    exact ⟨⟨k + 1, s, t, by omega, by go_num, rfl, rfl, E1.out, E2.out, HX.out⟩, by simp [intOf]; omega⟩
   | true =>
    rw [hm] at hcx e1 e2
    rw [Bool.true_and] at e1 e2
    have hml := manyB_le k
    generalize manyB k = m at e1 e2 hml HCN
    clear hm hc hx hs ht
    by_cases hge : least ≤ (m : Int)
    ·have t1 : decide (least ≤ (m : Int)) = true := by simpa using hge
     have t2 : decide ((m : Int) < least) = false := by simp; omega
     rw [t1, Bool.or_true] at e1
     rw [t2, Bool.or_false] at e2
     have E1 := Lib.hid e1
     have E2 := Lib.hid e2
     clear e1 e2 hge
     cases s <;> cases t
     all_goals
      have hq := Ext.refl wr
      go_wp2_with (go_at_call 61; refine (HCN.out _).mono ?_; rintro e w' ⟨rfl, hx1⟩; replace hq := hq.trans hx1; clear hx1)
      exact ⟨⟨k + 1, _, _, by omega, by go_num, rfl, rfl, E1.out, E2.out, HX.out.trans hq⟩, by simp [intOf]; omega⟩
    ·have t1 : decide (least ≤ (m : Int)) = false := by simpa using hge
     have t2 : decide ((m : Int) < least) = true := by simp; omega
     rw [t1, Bool.or_false] at e1
     rw [t2, Bool.or_true] at e2
     have E1 := Lib.hid e1
     have E2 := Lib.hid e2
     clear e1 e2 hge
     cases s <;> cases t
     all_goals
      have hq := Ext.refl wr
      go_wp2_with (go_at_call 61; refine (HCN.out _).mono ?_; rintro e w' ⟨rfl, hx1⟩; replace hq := hq.trans hx1; clear hx1)
      exact ⟨⟨k + 1, _, _, by omega, by go_num, rfl, rfl, E1.out, E2.out, HX.out.trans hq⟩, by simp [intOf]; omega⟩
  ·have x1 : decide ((k : Int) < (n : Int)) = false := by simp; omega
   have hkn : k = n := by omega
   have f1 := hs.out
   have f2 := ht.out
   rw [hkn, HA1.out] at f1
   rw [hkn, HA2.out] at f2
   have HR : Hid (knownB least l = (!s || !t)) := by unfold Hid knownB; rw [f1, f2]
   clear f1 f2 hs ht
   cases s <;> cases t
   all_goals
    go_wp2
    go_ret
    exact ⟨by rw [HR.out] <;> rfl, hx⟩
end Go.Proofs.YtdmdabhdcpjkiaaGreatDoor

/- The reference's after. -/
namespace Go.Proofs.YtdmdabhdcpjkiaaGreatDoor
open Go.RowKit
theorem info_boolr : (Tryz.prog.info? 4).map (fun i => (i.zero, i.size, i.bytes)) = some (some (.bool false), 1, 1) := by kernel_rfl
theorem madeCells_bool (n : Nat) : madeCells (Value.bool false).cells (n * 1) = ((List.replicate n false).map Value.bool).toArray := by
 apply Array.ext
 ·simp [size_madeCells]
 ·intro i h1 h2
  simp [madeCells]
  show (#[Value.bool false] : Array Value)[i % 1]! = _
  rw [Nat.mod_one]
  rfl
/-- The marks of what a test leaves, as far as the first k patterns. -/
def aftTo (n : Nat) (l : List Nat) (i : Nat) (c : Bool) (k : Nat) : List Bool := (List.range n).map fun p => decide (p < k) && (decide (p ∈ l) && (hasB p i == c))
theorem aftTo_zero (n : Nat) (l : List Nat) (i : Nat) (c : Bool) : aftTo n l i c 0 = List.replicate n false := by
 unfold aftTo
 apply List.ext_getElem <;> simp
theorem aftTo_all (n : Nat) (l : List Nat) (i : Nat) (c : Bool) : aftTo n l i c n = marksOf n (l.filter fun p => hasB p i == c) := by
 unfold aftTo
 rw [marks_filter]
 refine List.map_congr_left fun p hp => ?_
 rw [decide_eq_true (List.mem_range.1 hp), Bool.true_and]
theorem aftTo_no {n : Nat} {l : List Nat} {i : Nat} {c : Bool} {k : Nat} (h : (decide (k ∈ l) && (hasB k i == c)) = false) : aftTo n l i c (k + 1) = aftTo n l i c k := by
 unfold aftTo
 refine List.map_congr_left fun p hp => ?_
 by_cases hpk : p = k
 ·subst hpk; rw [h]; simp
 ·rw [show decide (p < k + 1) = decide (p < k) from decide_eq_decide.2 (by omega)]
theorem aftTo_yes {n : Nat} {l : List Nat} {i : Nat} {c : Bool} {k : Nat} (h : (decide (k ∈ l) && (hasB k i == c)) = true) : aftTo n l i c (k + 1) = (aftTo n l i c k).set k true := by
 unfold aftTo
 apply List.ext_getElem
 ·simp
 ·intro p h1 h2
  rw [List.getElem_set]
  simp only [List.getElem_map, List.getElem_range]
  by_cases hpk : k = p
  ·subst hpk; rw [if_pos rfl, h]; simp
  ·rw [if_neg hpk, show decide (p < k + 1) = decide (p < k) from decide_eq_decide.2 (by omega)]
theorem any_filter {l : List Nat} {f : Nat → Bool} : l.any f = decide (l.filter f ≠ []) := by
 rw [Bool.eq_iff_iff, List.any_eq_true, decide_eq_true_eq]
 constructor
 ·rintro ⟨x, hx, h⟩ h0
  have := List.mem_filter.2 ⟨hx, h⟩
  rw [h0] at this; simp at this
 ·intro h
  obtain ⟨x, hx⟩ := List.exists_mem_of_ne_nil _ h
  exact ⟨x, (List.mem_filter.1 hx).1, (List.mem_filter.1 hx).2⟩
set_option maxRecDepth 100000 in
set_option maxHeartbeats 4000000 in
theorem rafter_any (v : Value) (n : Nat) (l : List Nat) (i : Nat) (c : Bool) (w : World) (hv : MarksAt w v n l) (hl : ∀ p, p ∈ l → p < n) (hn : n ≤ 16) (hi : i < 16) :
  Calls Tryz.prog 52 #[v, .int .i64 (i : Int), .bool c] w fun e w' => ∃ a k, e = .returned (.tuple #[.slice a n k, .bool (decide ((l.filter fun p => hasB p i == c) ≠ []))]) ∧ MarksAt w' (.slice a n k) n (l.filter fun p => hasB p i == c) ∧ Ext w w' := by
 obtain ⟨a, cc, rfl, h1, h2, h3⟩ := hv.open
 have H3 := Lib.hid h3
 have HA := Lib.hid ((anyTo_all (f := fun p => hasB p i == c) hl).trans any_filter)
 obtain ⟨i0, hi0, hz0, hz1, hz2⟩ := info_parts info_boolr
 have HSB := Lib.hid (show i0.bytes * n ≤ 281474976710656 ∧ n ≤ maxLen by rw [hz2]; unfold maxLen; omega)
 clear hv h3 hl
 go_enter Tryz.func52, Tryz.ntmps52
 go_wp2_with (refine wpList_make_full _ rfl _ _ _ rfl w.heap.size _ i0 _ 1 Tryz.underlying37 hi0 hz0 hz1 .i64 .i64 _ _ n rfl rfl rfl rfl HSB.out.1 HSB.out.2 (Nat.le_refl _) ?_; intro w1 hown1 hg1; have hx1 : Ext w w1 := Ext.grown (Ext.refl w) hg1 (fun k hk => by cases hk); have HO1 := Lib.hid hown1; clear hown1 hg1)
 have hown1 := HO1.out
 rw [madeCells_bool, ← aftTo_zero n l i c] at hown1
 clear HO1 hi0 hz0 hz1 hz2 HSB
 go_loopw [9, 10] (fun x j wr => ∃ (k : Nat) (s : Bool), k ≤ n ∧ j = .int .i64 (k : Int) ∧ x = .bool s ∧ Hid (anyTo (fun p => hasB p i == c) l k = s) ∧ wr.ownsRow w.heap.size 4 1 (.slice (some ⟨w.heap.size, 0, none⟩) n n) n ((aftTo n l i c k).map .bool) ∧ Ext w wr) (fun _ j _ => n - (intOf j).toNat)
 case atStart => exact ⟨0, false, Nat.zero_le _, rfl, rfl, rfl, hown1, hx1⟩
 case round =>
  clear hown1 hx1
  obtain ⟨k, s, hk, rfl, rfl, hs, hown, hx⟩ := hrel
  by_cases hlt : k < n
  ·obtain ⟨b, o, rfl, hc⟩ := H3.out k hlt
   have x1 : decide ((k : Int) < (n : Int)) = true := by simpa using hlt
   have i1 : (0 : Int) ≤ (k : Int) := by omega
   have i2 : (k : Int) < (n : Int) := by omega
   have hcx := hx.cell hc
   have HXR := Lib.hid hx
   have HOW := Lib.hid hown
   have hlen : k < ((aftTo n l i c k).map Value.bool).length := by simp [aftTo]; omega
   obtain ⟨u, hu⟩ : ∃ u, ((aftTo n l i c k).map Value.bool)[k]? = some u := ⟨_, List.getElem?_eq_getElem hlen⟩
   have hrc := row_cell hown hu
   have hrf := hown.frozenAt k
   have HST := Lib.hid (hown.stored k (.bool true)).1
   have HXS := Lib.hid (hx.setCell (p := ⟨w.heap.size, k, none⟩) (Nat.le_refl _) (.bool true))
   have hbt := has_bits k i (by omega)
   clear hc hx hown hlen hu
   cases hm : decide (k ∈ l) with
   | false =>
    have HQ1 := Lib.hid (aftTo_no (n := n) (l := l) (i := i) (c := c) (k := k) (by rw [hm]; rfl))
    have HQ2 := Lib.hid (show anyTo (fun p => hasB p i == c) l (k + 1) = s by rw [anyTo_succ, hs.out, hm]; simp)
    rw [hm] at hcx
    clear hm
    go_wp2
    refine ⟨⟨k + 1, s, by omega, by go_num, rfl, HQ2.out, ?_, HXR.out⟩, by simp [intOf]; omega⟩
    rw [HQ1.out]
    exact HOW.out
   | true =>
    cases hbit : k.testBit i <;> cases c
    ·skip
     have HQ1 := Lib.hid (aftTo_yes (n := n) (l := l) (i := i) (c := false) (k := k) (by rw [hm]; unfold hasB; rw [hbit]; rfl))
     have HQ2 := Lib.hid (show anyTo (fun p => hasB p i == false) l (k + 1) = true by rw [anyTo_succ, hm]; unfold hasB; rw [hbit]; simp)
     rw [hm] at hcx
     rw [hbit] at hbt
     clear hm hbit
     go_wp2
     refine ⟨⟨k + 1, true, by omega, by go_num, rfl, HQ2.out, ?_, HXS.out⟩, by simp [intOf]; omega⟩
     rw [HQ1.out, List.map_set]
     exact HST.out
    ·skip
     have HQ1 := Lib.hid (aftTo_no (n := n) (l := l) (i := i) (c := true) (k := k) (by rw [hm]; unfold hasB; rw [hbit]; rfl))
     have HQ2 := Lib.hid (show anyTo (fun p => hasB p i == true) l (k + 1) = s by rw [anyTo_succ, hs.out, hm]; unfold hasB; rw [hbit]; simp)
     rw [hm] at hcx
     rw [hbit] at hbt
     clear hm hbit
     go_wp2
     refine ⟨⟨k + 1, s, by omega, by go_num, rfl, HQ2.out, ?_, HXR.out⟩, by simp [intOf]; omega⟩
     rw [HQ1.out]
     exact HOW.out
    ·skip
     have HQ1 := Lib.hid (aftTo_no (n := n) (l := l) (i := i) (c := false) (k := k) (by rw [hm]; unfold hasB; rw [hbit]; rfl))
     have HQ2 := Lib.hid (show anyTo (fun p => hasB p i == false) l (k + 1) = s by rw [anyTo_succ, hs.out, hm]; unfold hasB; rw [hbit]; simp)
     rw [hm] at hcx
     rw [hbit] at hbt
     clear hm hbit
     go_wp2
     refine ⟨⟨k + 1, s, by omega, by go_num, rfl, HQ2.out, ?_, HXR.out⟩, by simp [intOf]; omega⟩
     rw [HQ1.out]
     exact HOW.out
    ·skip
     have HQ1 := Lib.hid (aftTo_yes (n := n) (l := l) (i := i) (c := true) (k := k) (by rw [hm]; unfold hasB; rw [hbit]; rfl))
     have HQ2 := Lib.hid (show anyTo (fun p => hasB p i == true) l (k + 1) = true by rw [anyTo_succ, hm]; unfold hasB; rw [hbit]; simp)
     rw [hm] at hcx
     rw [hbit] at hbt
     clear hm hbit
     go_wp2
     refine ⟨⟨k + 1, true, by omega, by go_num, rfl, HQ2.out, ?_, HXS.out⟩, by simp [intOf]; omega⟩
     rw [HQ1.out, List.map_set]
     exact HST.out
  ·have x1 : decide ((k : Int) < (n : Int)) = false := by simp; omega
   have hkn : k = n := by omega
   have f1 := hs.out
   rw [hkn, HA.out] at f1
   rw [hkn, aftTo_all] at hown
   have HR := Lib.hid (RowAt.of_owns hown)
   have HF := Lib.hid f1
   clear hown f1 hs
   go_wp2
   go_ret2
   exact ⟨_, _, by rw [HF.out] <;> rfl, HR.out, hx⟩
end Go.Proofs.YtdmdabhdcpjkiaaGreatDoor

/- The reference's Tests. -/
namespace Go.Proofs.YtdmdabhdcpjkiaaGreatDoor
open Go.RowKit
theorem yes_eq (l : List Nat) (i : Nat) : (l.filter fun p => hasB p i == true) = yesOf l i := by unfold yesOf; exact List.filter_congr fun p _ => by simp
theorem no_eq (l : List Nat) (i : Nat) : (l.filter fun p => hasB p i == false) = noOf l i := by unfold noOf; exact List.filter_congr fun p _ => by simp
set_option maxRecDepth 100000 in
set_option maxHeartbeats 8000000 in
theorem rtest_one (v : Value) (m n : Nat) (least : Int) (l : List Nat) (w : World) (hv : MarksAt w v n l) (hl : ∀ p, p ∈ l → p < n) (hn : n ≤ 16) (hm : m ≤ 4) (hll : l.length ≤ 16)
  (hpt : planTo least l m = bestP least l)
  (IH : ∀ (l' : List Nat) (v' : Value) (w' : World), MarksAt w' v' n l' → (∀ p, p ∈ l' → p ∈ l) → l'.length < l.length → Calls Tryz.prog 15 #[v', .int .i64 (m : Int), .int .i64 least] w' fun e w2 => e = .returned (.tuple #[.int .i64 (neededP least l'), .int .i64 (refT least l').2]) ∧ Ext w' w2) :
  Calls Tryz.prog 15 #[v, .int .i64 (m : Int), .int .i64 least] w fun e w' => e = .returned (.tuple #[.int .i64 (refT least l).1, .int .i64 (refT least l).2]) ∧ Ext w w' := by
 have HD := Lib.hid (fun W (h : Ext w W) => rdecided_any v n l least W (hv.ext h) hl hn)
 have HAY := Lib.hid (fun (k : Nat) (hk : k < 16) W (h : Ext w W) => yes_eq l k ▸ rafter_any v n l k true W (hv.ext h) hl hn hk)
 have HAN := Lib.hid (fun (k : Nat) (hk : k < 16) W (h : Ext w W) => no_eq l k ▸ rafter_any v n l k false W (hv.ext h) hl hn hk)
 have HIH := Lib.hid IH
 have HPT := Lib.hid hpt
 obtain ⟨a, c, rfl, _⟩ := hv.open
 clear hv hl IH hpt
 cases hk : knownB least l with
 | true =>
  rw [hk] at HD
  have HR : Hid (refT least l = (0, -1)) := by unfold Hid refT; rw [hk]; rfl
  clear hk
  have hq := Ext.refl w
  go_enter Tryz.func15, Tryz.ntmps15
  go_wp2_with (go_at_call 51; refine (HD.out _ hq).mono ?_; rintro e w1 ⟨rfl, hx1⟩; replace hq := hq.trans hx1; clear hx1)
  go_ret2
  exact ⟨by rw [HR.out] <;> rfl, hq⟩
 | false =>
  rw [hk] at HD
  have HR : Hid (refT least l = ((bestP least l).2, (bestP least l).1)) := by unfold Hid refT; rw [hk]; rfl
  clear hk
  have hq := Ext.refl w
  go_enter Tryz.func15, Tryz.ntmps15
  go_wp2_with (go_at_call 51; refine (HD.out _ hq).mono ?_; rintro e w1 ⟨rfl, hx1⟩; replace hq := hq.trans hx1; clear hx1)
  go_loopw [8, 9, 10] (fun f o i wr => ∃ (k : Nat) (p : Int × Int), k ≤ m ∧ i = .int .i64 (k : Int) ∧ f = .int .i64 p.2 ∧ o = .int .i64 p.1 ∧ Hid (planTo least l k = p) ∧ Ext w wr) (fun _ _ i _ => m - (intOf i).toNat)
  case atStart => exact ⟨0, (-1, 0), Nat.zero_le _, rfl, rfl, rfl, rfl, hq⟩
  case round =>
   clear hq
   obtain ⟨k, p, hkm, rfl, rfl, rfl, hp, hx⟩ := hrel
   by_cases hlt : k < m
   ·have x1 : decide ((k : Int) < (m : Int)) = true := by simpa using hlt
    have HY := Lib.hid (HAY.out k (by omega))
    have HN := Lib.hid (HAN.out k (by omega))
    have hst : planTo least l (k + 1) = planStep least l p k := by rw [planTo_succ, hp.out]
    have hq := Ext.refl wr
    by_cases hy0 : yesOf l k = []
    ·have HF : Hid (planTo least l (k + 1) = p) := by unfold Hid; rw [hst]; unfold planStep; rw [if_pos (.inl hy0)]
     have b1 : decide (yesOf l k ≠ []) = false := by rw [hy0]; rfl
     rw [b1] at HY
     clear hst hy0 b1
     generalize hb2 : decide (noOf l k ≠ []) = b2 at HN
     clear hb2
     cases b2
     all_goals
      go_wp2_with (go_at_call 52; first | (refine (HY.out _ (hx.trans hq)).mono ?_; rintro e w' ⟨a1, c1, rfl, hm1, hx1⟩; have HM1 := Lib.hid hm1; replace hq := hq.trans hx1; clear hx1 hm1 HY) | (refine (HN.out _ (hx.trans hq)).mono ?_; rintro e w' ⟨a2, c2, rfl, hm2, hx1⟩; replace hq := hq.trans hx1; clear hx1 hm2 HN))
      exact ⟨⟨k + 1, p, by omega, by go_num, rfl, rfl, HF.out, hx.trans hq⟩, by simp [intOf]; omega⟩
    ·by_cases hn0 : noOf l k = []
     ·have HF : Hid (planTo least l (k + 1) = p) := by unfold Hid; rw [hst]; unfold planStep; rw [if_pos (.inr hn0)]
      have b1 : decide (yesOf l k ≠ []) = true := by simpa using hy0
      have b2 : decide (noOf l k ≠ []) = false := by rw [hn0]; rfl
      rw [b1] at HY
      rw [b2] at HN
      clear hst hy0 hn0 b1 b2
      go_wp2_with (go_at_call 52; first | (refine (HY.out _ (hx.trans hq)).mono ?_; rintro e w' ⟨a1, c1, rfl, hm1, hx1⟩; have HM1 := Lib.hid hm1; replace hq := hq.trans hx1; clear hx1 hm1 HY) | (refine (HN.out _ (hx.trans hq)).mono ?_; rintro e w' ⟨a2, c2, rfl, hm2, hx1⟩; replace hq := hq.trans hx1; clear hx1 hm2 HN))
      exact ⟨⟨k + 1, p, by omega, by go_num, rfl, rfl, HF.out, hx.trans hq⟩, by simp [intOf]; omega⟩
     ·have b1 : decide (yesOf l k ≠ []) = true := by simpa using hy0
      have b2 : decide (noOf l k ≠ []) = true := by simpa using hn0
      rw [b1] at HY
      rw [b2] at HN
      unfold planStep at hst
      rw [if_neg (fun h => h.elim hy0 hn0)] at hst
      have HTY := Lib.hid (fun v' w' h => HIH.out (yesOf l k) v' w' h (fun q h => (List.mem_filter.1 h).1) (yes_less hn0))
      have HTN := Lib.hid (fun v' w' h => HIH.out (noOf l k) v' w' h (fun q h => (List.mem_filter.1 h).1) (no_less hy0))
      have hA := neededP_range least (yesOf l k)
      have hB := neededP_range least (noOf l k)
      have hyl := yes_less hn0
      have hnl := no_less hy0
      generalize neededP least (yesOf l k) = A at HTY hst hA
      generalize neededP least (noOf l k) = B at HTN hst hB
      generalize (refT least (yesOf l k)).2 = A2 at HTY
      generalize (refT least (noOf l k)).2 = B2 at HTN
      have hmr : 0 ≤ max A B ∧ max A B ≤ 16 := by omega
      have E1 : IntKind.i64.wrap (1 + max A B) = 1 + max A B := IntWalk.i64_in _ (by omega)
      clear hA hB hyl hnl b1 b2 hy0 hn0 hmr
      obtain ⟨p1, p2⟩ := p
      unfold betterB at hst
      simp only at hst
      by_cases c1 : p1 < 0
      ·have d1 : decide (p1 < 0) = true := by simpa using c1
       rw [if_pos (.inl c1)] at hst
       have HF := Lib.hid hst
       clear hst c1
       go_wp2_with (first | (go_at_call 52; first | (refine (HY.out _ (hx.trans hq)).mono ?_; rintro e w' ⟨a1, c1, rfl, hm1, hx1⟩; have HM1 := Lib.hid hm1; have hy1 := Ext.refl w'; replace hq := hq.trans hx1; clear hx1 hm1 HY) | (refine (HN.out _ (hx.trans hq)).mono ?_; rintro e w' ⟨a2, c2, rfl, hm2, hx1⟩; have HM2 := Lib.hid hm2; have hy2 := Ext.refl w'; replace hy1 := hy1.trans hx1; replace hq := hq.trans hx1; clear hx1 hm2 HN)) | (go_at_call 15; first | (refine (HTY.out _ _ (HM1.out.ext hy1)).mono ?_; rintro e w' ⟨rfl, hx1⟩; replace hy2 := hy2.trans hx1; replace hq := hq.trans hx1; clear hx1 HTY) | (refine (HTN.out _ _ (HM2.out.ext hy2)).mono ?_; rintro e w' ⟨rfl, hx1⟩; replace hq := hq.trans hx1; clear hx1)))
       exact ⟨⟨k + 1, _, by omega, by go_num, rfl, rfl, HF.out, hx.trans hq⟩, by simp [intOf]; omega⟩
      ·have d1 : decide (p1 < 0) = false := by simpa using c1
       by_cases c2 : 1 + max A B < p2
       ·have d2 : decide (1 + max A B < p2) = true := by simpa using c2
        rw [if_pos (.inr c2)] at hst
        have HF := Lib.hid hst
        clear hst c1 c2
        go_wp2_with (first | (go_at_call 52; first | (refine (HY.out _ (hx.trans hq)).mono ?_; rintro e w' ⟨a1, c1, rfl, hm1, hx1⟩; have HM1 := Lib.hid hm1; have hy1 := Ext.refl w'; replace hq := hq.trans hx1; clear hx1 hm1 HY) | (refine (HN.out _ (hx.trans hq)).mono ?_; rintro e w' ⟨a2, c2, rfl, hm2, hx1⟩; have HM2 := Lib.hid hm2; have hy2 := Ext.refl w'; replace hy1 := hy1.trans hx1; replace hq := hq.trans hx1; clear hx1 hm2 HN)) | (go_at_call 15; first | (refine (HTY.out _ _ (HM1.out.ext hy1)).mono ?_; rintro e w' ⟨rfl, hx1⟩; replace hy2 := hy2.trans hx1; replace hq := hq.trans hx1; clear hx1 HTY) | (refine (HTN.out _ _ (HM2.out.ext hy2)).mono ?_; rintro e w' ⟨rfl, hx1⟩; replace hq := hq.trans hx1; clear hx1)))
        exact ⟨⟨k + 1, _, by omega, by go_num, rfl, rfl, HF.out, hx.trans hq⟩, by simp [intOf]; omega⟩
       ·have d2 : decide (1 + max A B < p2) = false := by simpa using c2
        rw [if_neg (fun h => h.elim c1 c2)] at hst
        have HF := Lib.hid hst
        clear hst c1 c2
        go_wp2_with (first | (go_at_call 52; first | (refine (HY.out _ (hx.trans hq)).mono ?_; rintro e w' ⟨a1, c1, rfl, hm1, hx1⟩; have HM1 := Lib.hid hm1; have hy1 := Ext.refl w'; replace hq := hq.trans hx1; clear hx1 hm1 HY) | (refine (HN.out _ (hx.trans hq)).mono ?_; rintro e w' ⟨a2, c2, rfl, hm2, hx1⟩; have HM2 := Lib.hid hm2; have hy2 := Ext.refl w'; replace hy1 := hy1.trans hx1; replace hq := hq.trans hx1; clear hx1 hm2 HN)) | (go_at_call 15; first | (refine (HTY.out _ _ (HM1.out.ext hy1)).mono ?_; rintro e w' ⟨rfl, hx1⟩; replace hy2 := hy2.trans hx1; replace hq := hq.trans hx1; clear hx1 HTY) | (refine (HTN.out _ _ (HM2.out.ext hy2)).mono ?_; rintro e w' ⟨rfl, hx1⟩; replace hq := hq.trans hx1; clear hx1)))
        exact ⟨⟨k + 1, _, by omega, by go_num, rfl, rfl, HF.out, hx.trans hq⟩, by simp [intOf]; omega⟩
   ·have x1 : decide ((k : Int) < (m : Int)) = false := by simp; omega
    have hkm2 : k = m := by omega
    have hp2 := hp.out
    rw [hkm2, HPT.out] at hp2
    have HR2 : Hid (refT least l = (p.2, p.1)) := by unfold Hid; rw [HR.out, hp2]
    clear hp2 hp
    go_wp2
    go_ret2
    exact ⟨by rw [HR2.out] <;> rfl, hx⟩
theorem rtests_any (m : Nat) (least : Int) (hm : m ≤ 4) : ∀ (N : Nat) (l : List Nat) (v : Value) (w : World), l.length ≤ N → MarksAt w v (2 ^ m) l → (∀ p, p ∈ l → p < 2 ^ m) → l.length ≤ 16 →
  Calls Tryz.prog 15 #[v, .int .i64 (m : Int), .int .i64 least] w fun e w' => e = .returned (.tuple #[.int .i64 (refT least l).1, .int .i64 (refT least l).2]) ∧ Ext w w' := by
 have h16 : 2 ^ m ≤ 16 := by
  rcases (by omega : m = 0 ∨ m = 1 ∨ m = 2 ∨ m = 3 ∨ m = 4) with h | h | h | h | h <;> rw [h] <;> decide
 intro N
 induction N with
 | zero => exact fun l v w h0 hv hl hll => rtest_one v m (2 ^ m) least l w hv hl h16 hm hll (by rw [bestP_planTo, planTo_stop hl 4 hm]) (fun l' v' w' _ _ hlt => absurd hlt (by omega))
 | succ N ih =>
  exact fun l v w h0 hv hl hll => rtest_one v m (2 ^ m) least l w hv hl h16 hm hll (by rw [bestP_planTo, planTo_stop hl 4 hm]) (fun l' v' w' hv' hsub hlt => (ih l' v' w' (by omega) hv' (fun p hp => hl p (hsub p hp)) (by omega)).mono fun e w2 q => ⟨by rw [q.1, refT_fst], q.2⟩)
end Go.Proofs.YtdmdabhdcpjkiaaGreatDoor
