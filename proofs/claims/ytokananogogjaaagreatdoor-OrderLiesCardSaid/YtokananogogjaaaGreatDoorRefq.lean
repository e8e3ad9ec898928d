/- The specification's lists of a book, in plain Lean. -/
import Derived.Test.YtokananogogjaaaGreatDoorOql
import Derived.Test.YtokananogogjaaaGreatDoorOc
import Derived.Test.YtokananogogjaaaGreatDoorHeld
import Derived.Test.YtokananogogjaaaGreatDoorRbk
import Derived.Test.YtokananogogjaaaGreatDoorOlt
namespace Go.Proofs.YtokananogogjaaaGreatDoor
open Go.RowKit
/-! ### The specification's lists -/
def extO (n : Nat) (all : List (List Int)) : List (List Int) := all.flatMap fun l => ((numsOf n).filter fun x => nodupB (l ++ [x])).map fun x => l ++ [x]
def ordO (n : Nat) : Nat → List (List Int)
 | 0 => [[]]
 | i + 1 => extO n (ordO n i)
theorem ordO_nodup (n : Nat) : ∀ (i : Nat) (l : List Int), l ∈ ordO n i → l.Nodup
 | 0, l, h => by simp [ordO] at h; subst h; exact List.nodup_nil
 | i + 1, l, h => by
  unfold ordO extO at h
  obtain ⟨l0, _, h2⟩ := List.mem_flatMap.1 h
  obtain ⟨x, hx, rfl⟩ := List.mem_map.1 h2
  exact nodupB_iff.1 (List.mem_filter.1 hx).2
theorem nodup_snoc {l : List Int} (h : l.Nodup) (x : Int) : nodupB (l ++ [x]) = decide (x ∉ l) := by
 rw [Bool.eq_iff_iff, nodupB_iff, decide_eq_true_eq, List.nodup_append]
 constructor
 ·intro hh hx; exact hh.2.2 x hx x (by simp) rfl
 ·intro hx; exact ⟨h, by simp, fun a ha b hb e => hx (by simp at hb; rw [← hb, ← e]; exact ha)⟩
theorem from_gen {α : Type} (F : List Int → List α) (now : List Int) (h : now.Nodup) : ∀ (L : List Int), (L.flatMap fun n => if n ∈ now then [] else F (now ++ [n])) = ((L.filter fun x => nodupB (now ++ [x])).map fun x => now ++ [x]).flatMap F
 | [] => rfl
 | x :: L => by
  rw [List.flatMap_cons, from_gen F now h L, List.filter_cons, nodup_snoc h]
  by_cases hx : x ∈ now
  ·simp [hx]
  ·simp [hx]
theorem from_step (hs : List Int) (f : Nat) (now : List Int) (h : now.Nodup) : ordersFrom hs (f + 1) now = ((hs.filter fun x => nodupB (now ++ [x])).map fun x => now ++ [x]).flatMap (ordersFrom hs f) := by
 show (hs.flatMap fun n => if n ∈ now then [] else ordersFrom hs f (now ++ [n])) = _
 exact from_gen _ now h hs
theorem flat_congr {α β : Type} {f g : α → List β} : ∀ {l : List α}, (∀ x, x ∈ l → f x = g x) → l.flatMap f = l.flatMap g
 | [], _ => rfl
 | x :: l, h => by rw [List.flatMap_cons, List.flatMap_cons, h x (by simp), flat_congr fun y hy => h y (by simp [hy])]
theorem ordO_from (n : Nat) : ∀ (i f : Nat), i + f = n → (ordO n i).flatMap (ordersFrom (numsOf n) f) = ordersOf (numsOf n)
 | 0, f, h => by
  have : f = (numsOf n).length := by rw [numsOf_length]; omega
  subst this
  simp [ordO, ordersOf]
 | i + 1, f, h => by
  rw [← ordO_from n i (f + 1) (by omega)]
  show (extO n (ordO n i)).flatMap _ = _
  unfold extO
  rw [List.flatMap_assoc]
  exact flat_congr fun l hl => (from_step _ _ _ (ordO_nodup n i l hl)).symm
theorem ordO_all (b : Book) : ordO b.goods.length b.goods.length = permsB b := by
 unfold permsB
 rw [← ordO_from b.goods.length b.goods.length 0 (by omega)]
 have : ∀ l : List (List Int), l.flatMap (ordersFrom (numsOf b.goods.length) 0) = l := fun l => by
  induction l with
  | nil => rfl
  | cons x l ih => rw [List.flatMap_cons, ih]; rfl
 rw [this]
/-- The rows that the specification makes: forward, back, and both together. -/
def rowF (b : Book) (e : Nat) : List Int := (permsB b).map fun l => if allowedB b e l then aheadB b e l else 0
def rowK (b : Book) (e : Nat) : List Int := (permsB b).map fun l => if allowedB b e l then afterB b e l else 0
def rowM (b : Book) (e : Nat) : List Int := (permsB b).map fun l => if allowedB b e l then manyB b e l else 0
theorem perms_nodupB {b : Book} {l : List Int} (h : l ∈ permsB b) : nodupB l = true := nodupB_iff.2 (perms_mem.1 h).2.1
theorem sum_if_congr {α : Type} {f g : α → Int} {l : List α} (h : ∀ x, x ∈ l → f x = g x) : (l.map f).sum = (l.map g).sum := sum_congr h
theorem rowF_step {b : Book} {e : Nat} (l : List Int) : ((permsB b).map fun x => if movedL x l ≤ b.moves then (if allowedB b e x then aheadB b e x else 0) else 0).sum = aheadB b (e + 1) l := by
 show _ = (((spB b e).filter (adjB b l)).map (aheadB b e)).sum
 rw [sum_filter]
 unfold spB
 rw [sum_filter]
 refine sum_congr fun x hx => ?_
 unfold suitsB adjB
 rw [perms_nodupB hx, movedL_comm l x, Bool.true_and]
 by_cases h1 : movedL x l ≤ b.moves <;> by_cases h2 : allowedB b e x = true <;> simp [h1, h2]
theorem rowK_step {b : Book} {e d : Nat} (l : List Int) : ((permsB b).map fun x => if movedL x l ≤ b.moves then (if allowedB b (e + 1 : Nat) x then backB b (e + 1) d x else 0) else 0).sum = backB b e (d + 1) l := by
 show _ = (((spB b (e + 1)).filter (adjB b l)).map (backB b (e + 1) d)).sum
 rw [sum_filter]
 unfold spB
 rw [sum_filter]
 refine sum_congr fun x hx => ?_
 unfold suitsB adjB
 rw [perms_nodupB hx, movedL_comm l x, Bool.true_and]
 by_cases h1 : movedL x l ≤ b.moves <;> by_cases h2 : allowedB b ((e + 1 : Nat) : Int) x = true <;> simp [h1]
theorem rowM_get {b : Book} {e i : Nat} {l : List Int} (h : (permsB b)[i]? = some l) : (rowM b e)[i]? = some (if allowedB b e l then manyB b e l else 0) := by unfold rowM; rw [List.getElem?_map, h]; rfl
theorem rowF_get {b : Book} {e i : Nat} {l : List Int} (h : (permsB b)[i]? = some l) : (rowF b e)[i]? = some (if allowedB b e l then aheadB b e l else 0) := by unfold rowF; rw [List.getElem?_map, h]; rfl
theorem rowK_get {b : Book} {e i : Nat} {l : List Int} (h : (permsB b)[i]? = some l) : (rowK b e)[i]? = some (if allowedB b e l then afterB b e l else 0) := by unfold rowK; rw [List.getElem?_map, h]; rfl
theorem row_mul {b : Book} {e : Nat} (l : List Int) : (if allowedB b e l then aheadB b e l else 0) * (if allowedB b e l then afterB b e l else 0) = if allowedB b e l then manyB b e l else 0 := by
 split
 ·rfl
 ·simp
theorem left_row (b : Book) (e : Nat) (n g : Int) : ((permsB b).map fun l => if l.getD n.toNat 0 = g then (if allowedB b e l then manyB b e l else 0) else 0).sum = leftB b e n g := by
 rw [left_sp, sum_filter]
 unfold spB
 rw [sum_filter]
 refine sum_congr fun x hx => ?_
 unfold suitsB
 rw [perms_nodupB hx, Bool.true_and]
 by_cases h1 : x.getD n.toNat 0 = g <;> by_cases h2 : allowedB b e x = true <;> simp [h2]
theorem truths_row {b : Book} (hB : BookB b) : (rowM b 0).sum = truthsB b := by
 have h1 := hB.e1
 rw [← truths_at (b := b) (e := 0) (by omega), pages_sum]
 unfold rowM spB
 rw [sum_filter]
 refine sum_congr fun x hx => ?_
 unfold suitsB
 rw [perms_nodupB hx, Bool.true_and]
/-- Sums as far as they are made. -/
def sumTo (f : List Int → Int) (b : Book) (k : Nat) : Int := (((permsB b).take k).map f).sum
theorem sumTo_zero (f : List Int → Int) (b : Book) : sumTo f b 0 = 0 := by simp [sumTo]
theorem sumTo_succ {f : List Int → Int} {b : Book} {k : Nat} {l : List Int} (h : (permsB b)[k]? = some l) : sumTo f b (k + 1) = sumTo f b k + f l := by
 unfold sumTo; rw [List.take_add_one, h, List.map_append, List.sum_append]; simp
theorem sumTo_all (f : List Int → Int) (b : Book) : sumTo f b (permsB b).length = ((permsB b).map f).sum := by unfold sumTo; rw [List.take_length]
theorem sumTo_bd {f : List Int → Int} {b : Book} {B : Int} (hf : ∀ l, 0 ≤ f l ∧ f l ≤ B) : ∀ k : Nat, 0 ≤ sumTo f b k ∧ sumTo f b k ≤ B * k := fun k => by
 unfold sumTo
 refine ⟨sum_nonneg fun l _ => (hf l).1, ?_⟩
 refine Int.le_trans (sum_le (g := fun _ => B) fun l _ => (hf l).2) ?_
 rw [sum_const, Int.mul_comm]
 have h0 := hf []
 exact Int.mul_le_mul_of_nonneg_left (by have := List.length_take_le k (permsB b); omega) (by omega)
end Go.Proofs.YtokananogogjaaaGreatDoor

/- The reference's moved and once. -/
namespace Go.Proofs.YtokananogogjaaaGreatDoor
open Go.RowKit
set_option maxRecDepth 100000 in
theorem rmoved_any (va vb : Value) (xs ys : List Int) (w : World) (ha : IntsAt w va xs) (hb : IntsAt w vb ys) (hl : xs.length = ys.length) :
  Calls Tryz.prog 28 #[va, vb] w fun e w' => e = .returned (.int .i64 (movedL xs ys)) ∧ Ext w w' := by
 obtain ⟨a, c, rfl, h1, h2, h3⟩ := ha.open
 obtain ⟨a', c', rfl, h1', h2', h3'⟩ := hb.open
 have H3 := Lib.hid h3
 have H3' := Lib.hid h3'
 have HL := Lib.hid hl
 clear h3 h3' ha hb hl
 go_enter Tryz.func28, Tryz.ntmps28
 go_wp2
 go_loopw [5, 6] (fun n i wr => ∃ k : Nat, k ≤ xs.length ∧ i = .int .i64 k ∧ n = .int .i64 (movedL (xs.take k) (ys.take k)) ∧ Ext w wr) (fun _ i _ => xs.length - (intOf i).toNat)
 case atStart => exact ⟨0, Nat.zero_le _, rfl, by simp [movedL], Ext.refl _⟩
 case round =>
  obtain ⟨k, hk, rfl, rfl, hx⟩ := hrel
  by_cases hlt : k < xs.length
  ·obtain ⟨b, o, x, rfl, hxk, c0⟩ := H3.out k hlt
   obtain ⟨b', o', y, rfl, hyk, c0'⟩ := H3'.out k (by have := HL.out; omega)
   have hbd := movedL_bd (xs.take k) (ys.take k)
   rw [List.length_take_of_le hk] at hbd
   have hs := movedL_take hxk.out hyk.out
   have q0 := hx.cell c0
   have q1 := hx.cell c0'
   have k2 : k < ys.length := by have := HL.out; omega
   by_cases hxy : x = y
   ·rw [if_pos hxy] at hs
    have e : (x != y) = false := by simp [hxy]
    have HS := Lib.hid hs
    clear hs hxy c0 c0'
    generalize movedL (xs.take k) (ys.take k) = m at *
    go_upto_region 5 with fail
    go_quiet (fail)
    go_wp2
    go_roundw
    case rel => exact ⟨k + 1, by omega, by go_num, by rw [HS.out]; go_num, hx.trans ((Ext.refl _).drewN _)⟩
    case measure => simp [intOf]; omega
   ·rw [if_neg hxy] at hs
    have e : (x != y) = true := by simp [hxy]
    have HS := Lib.hid hs
    clear hs hxy c0 c0'
    generalize movedL (xs.take k) (ys.take k) = m at *
    go_upto_region 5 with fail
    go_quiet (fail)
    go_wp2
    go_roundw
    case rel => exact ⟨k + 1, by omega, by go_num, by rw [HS.out], hx.trans ((Ext.refl _).drewN _)⟩
    case measure => simp [intOf]; omega
  ·have HE : Hid (movedL (xs.take k) (ys.take k) = movedL xs ys) := by
    have := HL.out
    unfold Hid; rw [List.take_of_length_le (by omega), List.take_of_length_le (by omega)]
   rw [HE.out]
   go_wp2
   go_ret
   exact ⟨rfl, hx⟩
theorem once_take {l : List Int} {k : Nat} {x : Int} (h : l[k]? = some x) (hn : nodupB (l.take k) = true) : nodupB (l.take (k + 1)) = decide (x ∉ l.take k) := by
 rw [List.take_add_one, h]
 exact nodup_snoc (nodupB_iff.1 hn) x
theorem once_bad {l : List Int} {k j : Nat} {x : Int} (hk : l[k]? = some x) (hj : l[j]? = some x) (h : j < k) : nodupB l = false := by
 rw [← Bool.not_eq_true, nodupB_iff]
 intro hn
 have h1 := (List.getElem?_eq_some_iff.1 hk)
 have h2 := (List.getElem?_eq_some_iff.1 hj)
 have := (List.getElem_inj hn).1 (h1.2.trans h2.2.symm)
 omega
set_option maxRecDepth 100000 in
theorem ronce_any (v : Value) (l : List Int) (w : World) (hv : IntsAt w v l) : Calls Tryz.prog 27 #[v] w fun e w' => e = .returned (.bool (nodupB l)) ∧ Ext w w' := by
 obtain ⟨a, c, rfl, h1, h2, h3⟩ := hv.open
 have H3 := Lib.hid h3
 clear h3 hv
 go_enter Tryz.func27, Tryz.ntmps27
 go_wp2
 go_loopw [3] (fun i wr => ∃ k : Nat, k ≤ l.length ∧ i = .int .i64 (k : Int) ∧ Hid (nodupB (l.take k) = true) ∧ Ext w wr) (fun i _ => l.length - (intOf i).toNat)
 case atStart => exact ⟨0, Nat.zero_le _, rfl, rfl, Ext.refl _⟩
 case round =>
  obtain ⟨k, hk, rfl, hnd, hx⟩ := hrel
  by_cases hlt : k < l.length
  ·have x1 : decide ((k : Int) < (l.length : Int)) = true := by simpa using hlt
   obtain ⟨b, o, x, rfl, hxk, c0⟩ := H3.out k hlt
   have HX := Lib.hid hx
   have HC := Lib.hid c0
   clear hx c0
   go_wp2
   obtain ⟨wo, rfl⟩ : ∃ wo : World, wo = wr := ⟨_, rfl⟩
   go_loopw [4] (fun i wz => ∃ j : Nat, j ≤ k ∧ i = .int .i64 (j : Int) ∧ Hid (x ∉ l.take j) ∧ Ext w wz) (fun i _ => k - (intOf i).toNat)
   case atStart => exact ⟨0, Nat.zero_le _, rfl, by simp [Hid], HX.out⟩
   case round =>
    obtain ⟨j, hj, rfl, hno, hx⟩ := hrel
    by_cases hlt2 : j < k
    ·have x2 : decide ((j : Int) < (k : Int)) = true := by simpa using hlt2
     obtain ⟨b', o', y, hbo, hyj, c1⟩ := H3.out j (by omega)
     cases hbo
     have q0 := hx.cell HC.out
     have q1 := hx.cell c1
     have k1 : (0 : Int) ≤ (k : Int) := by omega
     have k2 : (k : Int) < (l.length : Int) := by omega
     have j1 : (0 : Int) ≤ (j : Int) := by omega
     have j2 : (j : Int) < (l.length : Int) := by omega
     by_cases hxy : y = x
     ·subst hxy
      have HR := Lib.hid (once_bad hxk.out hyj.out hlt2)
      have HX2 := Lib.hid hx
      clear hx hno hnd c1 hxk hyj
      go_upto_region 7 with fail
      go_quiet (fail)
      go_wp2
      go_ret
      exact ⟨by rw [HR.out] <;> rfl, HX2.out.drewN _⟩
     ·have e : (y == x) = false := beq_eq_false_iff_ne.2 hxy
      have e2 : decide (y = x) = false := by simpa using hxy
      have HN2 : Hid (x ∉ l.take (j + 1)) := by
       unfold Hid
       rw [List.take_add_one, hyj.out]
       intro h
       rcases List.mem_append.1 h with h | h
       ·exact hno.out h
       ·simp at h; exact hxy h.symm
      have HX2 := Lib.hid hx
      clear hx hno c1 hyj hxy
      go_upto_region 7 with fail
      go_quiet (fail)
      go_wp2
      exact ⟨⟨j + 1, by omega, by go_num, HN2.out, HX2.out.drewN _⟩, by simp [intOf]; omega⟩
    ·have hje : j = k := by omega
     subst hje
     have HN2 : Hid (nodupB (l.take (j + 1)) = true) := by
      unfold Hid
      rw [once_take hxk.out hnd.out, decide_eq_true_eq]
      exact hno.out
     have x2 : decide ((j : Int) < (j : Int)) = false := by simp
     have HX2 := Lib.hid hx
     clear hx hno hnd hxk
     go_wp2
     exact ⟨⟨j + 1, by omega, by go_num, HN2.out, HX2.out⟩, by simp [intOf]; omega⟩
  ·have hke : k = l.length := by omega
   have x1 : decide ((k : Int) < (l.length : Int)) = false := by simpa using hlt
   have HR : Hid (nodupB l = true) := by
    have h := hnd.out
    rwa [List.take_of_length_le (by omega)] at h
   have HX := Lib.hid hx
   clear hnd hx
   go_wp2
   go_ret
   exact ⟨by rw [HR.out] <;> rfl, HX.out⟩
end Go.Proofs.YtokananogogjaaaGreatDoor

/- The reference's power and Has. -/
namespace Go.Proofs.YtokananogogjaaaGreatDoor
open Go.RowKit
theorem pow_le_16 {k : Nat} (h : k ≤ 4) : (1 : Int) ≤ 2 ^ k ∧ (2 : Int) ^ k ≤ 16 := by
 obtain h | h | h | h | h : k = 0 ∨ k = 1 ∨ k = 2 ∨ k = 3 ∨ k = 4 := by omega
 all_goals rw [h]; decide
theorem rpower_any (n : Nat) (w : World) (hn : n ≤ 5) : Calls Tryz.prog 26 #[.int .i64 (n : Int)] w fun e w' => e = .returned (.int .i64 (2 ^ n)) ∧ w = w' := by
 go_enter Tryz.func26, Tryz.ntmps26
 go_wp2
 go_loop [3, 4] (fun o i => ∃ k : Nat, k ≤ n ∧ i = .int .i64 (k : Int) ∧ o = .int .i64 (2 ^ k)) (fun _ i => n - (intOf i).toNat)
 case atStart => exact ⟨0, Nat.zero_le _, rfl, by simp⟩
 case round =>
  obtain ⟨k, hk, rfl, rfl⟩ := hrel
  by_cases hlt : k < n
  ·have x1 : decide ((k : Int) < (n : Int)) = true := by simpa using hlt
   obtain ⟨p0, p1⟩ := pow_le_16 (k := k) (by omega)
   have HP := Lib.hid (show (2 : Int) ^ (k + 1) = 2 * 2 ^ k by rw [Int.pow_succ, Int.mul_comm])
   generalize (2 : Int) ^ k = p at *
   have hw : IntKind.i64.wrap (2 * p) = 2 * p := IntWalk.i64_in _ (by omega)
   clear p0 p1
   go_wp2
   go_round
   case rel => exact ⟨k + 1, by omega, by go_num, by rw [HP.out]⟩
   case measure => simp [intOf]; omega
  ·have hke : k = n := by omega
   subst hke
   have x1 : decide ((k : Int) < (k : Int)) = false := by simp
   go_wp2
   go_ret
   exact ⟨rfl, rfl⟩
theorem testBit_div (s n : Nat) : (((s : Int) / 2 ^ n) % 2 == 1) = s.testBit n := by
 have h : ((s : Int) / 2 ^ n) % 2 = ((s / 2 ^ n % 2 : Nat) : Int) := by push_cast; rfl
 rw [h]
 rw [Nat.testBit_eq_decide_div_mod_eq]
 rw [Bool.eq_iff_iff, beq_iff_eq, decide_eq_true_eq]; omega
theorem rhas_any (s n : Nat) (w : World) (hn : n ≤ 5) (hs : s ≤ 1000) : Calls Tryz.prog 12 #[.int .i64 (s : Int), .int .i64 (n : Int)] w fun e w' => e = .returned (.bool (s.testBit n)) ∧ w = w' := by
 have HP := Lib.hid (fun W => rpower_any n W hn)
 have HT := Lib.hid (testBit_div s n)
 have h1 : (1 : Int) ≤ 2 ^ n := by
  obtain h | h : n ≤ 4 ∨ n = 5 := by omega
  ·exact (pow_le_16 h).1
  ·rw [h]; decide
 have hd0 : (0 : Int) ≤ (s : Int) / 2 ^ n := Int.ediv_nonneg (by omega) (by omega)
 have hd1 : (s : Int) / 2 ^ n ≤ s := Int.ediv_le_self _ (by omega)
 have hz : ¬ (2 : Int) ^ n = 0 := by omega
 have hw : wrap64 ((s : Int) / 2 ^ n) = (s : Int) / 2 ^ n := IntWalk.wrap64_in _ (by omega)
 have HM := Lib.hid (Int.tmod_eq_emod_of_nonneg hd0 (b := 2))
 generalize hp : (2 : Int) ^ n = p at *
 clear hp h1 hd0 hd1
 go_enter Tryz.func12, Tryz.ntmps12
 go_wp2_with (go_at_call 26; refine (HP.out _).mono ?_; rintro e w1 ⟨rfl, rfl⟩)
 go_ret
 refine ⟨?_, rfl⟩
 rw [← HT.out, ← HM.out]
 rfl
end Go.Proofs.YtokananogogjaaaGreatDoor

/- The reference's Buyer. -/
namespace Go.Proofs.YtokananogogjaaaGreatDoor
open Go.RowKit
set_option maxRecDepth 100000 in
set_option maxHeartbeats 8000000 in
theorem rbuyer_any (v xv : Value) (b : Book) (x : Buyer) (w : World) (hB : BookB b) (hb : BookAt w v b) (hx : BuyerAt w xv x) :
 Calls Tryz.prog 8 #[v, xv] w fun e w' => e = .returned (.bool (isBuyerB b x)) ∧ Ext w w' := by
 obtain ⟨ga, gc, ea, ec, rfl, hgl, hel⟩ := hb.open
 obtain ⟨la, lc, rfl, hl1, hl2, hlr⟩ := hx.open
 obtain ⟨W, HW⟩ : ∃ W, Hid (W = (w.alloc (bookBox (.slice ga b.goods.length gc) b (.slice ea b.entries.length ec))).alloc (.cells #[.int .i64 x.editions, .slice la x.letters.length lc] 28)) := ⟨_, rfl⟩
 have HX0 := Lib.hid (show Ext w W by rw [HW.out]; exact ((Ext.refl w).alloc _).alloc _)
 have HF := Lib.hid (fun W1 (h : Ext W W1) => (And.intro (h.cell (show W.cell? ⟨w.heap.size + 1, 0, none⟩ = some (.int .i64 x.editions) by rw [HW.out]; go_simp)) (And.intro (h.cell (show W.cell? ⟨w.heap.size + 1, 1, none⟩ = some (.slice la x.letters.length lc) by rw [HW.out]; go_simp)) (BoxAt.ext (show BoxAt W w.heap.size (.slice ga b.goods.length gc) b (.slice ea b.entries.length ec) by rw [HW.out]; exact (BoxAt.new _ _ _ _).ext ((Ext.refl _).alloc _)) h))))
 obtain ⟨_, _, hve, _, _, l3⟩ := RowOf.open4 (f := letC) (fun _ => rfl) hlr
 cases hve
 have HL3 := Lib.hid l3
 obtain ⟨n, hn⟩ : ∃ n : Nat, b.editions = n := ⟨b.editions.toNat, by have := hB.e1; omega⟩
 have hn3 : n ≤ 3 := by have := hB.e3; omega
 obtain ⟨p1, p2⟩ := pow_le_16 (k := n) (by omega)
 have HPW := Lib.hid (fun W1 => (by rw [hn]; exact rpower_any n W1 (by omega) : Calls Tryz.prog 26 #[.int .i64 b.editions] W1 fun e w' => e = .returned (.int .i64 (2 ^ n)) ∧ W1 = w'))
 have HBR : Hid (isBuyerB b x = (inB x.editions 1 (2 ^ n - 1) && inB x.letters.length 1 4 && !(x.letters.any (badLetter b)))) := by unfold Hid isBuyerB; rw [hn, Int.toNat_natCast]
 generalize (2 : Int) ^ n = p at *
 obtain ⟨q, hq⟩ : ∃ q : Int, p - 1 = q := ⟨_, rfl⟩
 have j1 : IntKind.i64.wrap (p - 1) = q := by rw [IntWalk.i64_in _ (by omega), hq]
 rw [hq] at HBR
 have HIN := Lib.hid (fun (a lo hi : Int) (r : Bool) (h : inB a lo hi = r) W1 => (by rw [← h]; exact rin_any a lo hi W1 : Calls Tryz.prog 24 #[.int .i64 a, .int .i64 lo, .int .i64 hi] W1 fun e w' => e = .returned (.bool r) ∧ W1 = w'))
 have HI3 := Lib.hid (fun (y : Int) W1 => rin_any y 0 1000 W1)
 have HGO := Lib.hid (fun (y : Int) W1 => rgood_any ga ea gc b.entries.length ec b y W1 hgl)
 clear hb hx hlr l3 hB hgl hel hn hn3 p1 p2 hq
 cases i1 : inB x.editions 1 q with
 | false =>
  have HR : Hid (isBuyerB b x = false) := by unfold Hid; rw [HBR.out, i1]; rfl
  go_enter Tryz.func8, Tryz.ntmps8
  go_upto_region 1 with fail
  rw [← HW.out]
  refine region_reads (C := fun W1 => Ext W W1) (by kernel_rfl) (by kernel_rfl) ((Ext.refl W).drew) ?_
  repeat (first | go_big_quiet_skip | (go_big_quiet_want; go_big_quiet_op; first | go_big_quiet_on | (refine ⟨_, fun W hW => rfl, ?_⟩; go_big_quiet_on)) | (go_big_quiet_want; refine ⟨?_, fun W hW => ?_, ?_⟩; rotate_left; (· (obtain ⟨c4, c5, b0, b1, b2, b3⟩ := HF.out W hW; go_simp; (first | with_reducible rfl | (go_at_call 26; refine (HPW.out W).mono ?_; rintro e w' ⟨rfl, rfl⟩; constructor; with_reducible rfl; exact hW) | (go_at_call 24; refine (HIN.out _ _ _ _ (by first | with_reducible exact i1 | with_reducible exact i2) W).mono ?_; rintro e w' ⟨rfl, rfl⟩; constructor; with_reducible rfl; exact hW)))); (try simp only [Act.put, yA, yB, yC]); go_big_quiet_on))
  refine wpQuiet_nil ?_
  intro wq hq
  go_wp2
  go_ret
  exact ⟨by rw [HR.out] <;> rfl, HX0.out.trans hq⟩
 | true =>
  cases i2 : inB (x.letters.length : Int) 1 4 with
  | false =>
   have HR : Hid (isBuyerB b x = false) := by unfold Hid; rw [HBR.out, i1, i2]; rfl
   go_enter Tryz.func8, Tryz.ntmps8
   go_upto_region 1 with fail
   rw [← HW.out]
   refine region_reads (C := fun W1 => Ext W W1) (by kernel_rfl) (by kernel_rfl) ((Ext.refl W).drew) ?_
   repeat (first | go_big_quiet_skip | (go_big_quiet_want; go_big_quiet_op; first | go_big_quiet_on | (refine ⟨_, fun W hW => rfl, ?_⟩; go_big_quiet_on)) | (go_big_quiet_want; refine ⟨?_, fun W hW => ?_, ?_⟩; rotate_left; (· (obtain ⟨c4, c5, b0, b1, b2, b3⟩ := HF.out W hW; go_simp; (first | with_reducible rfl | (go_at_call 26; refine (HPW.out W).mono ?_; rintro e w' ⟨rfl, rfl⟩; constructor; with_reducible rfl; exact hW) | (go_at_call 24; refine (HIN.out _ _ _ _ (by first | with_reducible exact i1 | with_reducible exact i2) W).mono ?_; rintro e w' ⟨rfl, rfl⟩; constructor; with_reducible rfl; exact hW)))); (try simp only [Act.put, yA, yB, yC]); go_big_quiet_on))
   refine wpQuiet_nil ?_
   intro wq hq
   go_wp2
   go_ret
   exact ⟨by rw [HR.out] <;> rfl, HX0.out.trans hq⟩
  | true =>
   have HL := Lib.hid (inB_iff.1 i2)
   have HR : Hid (isBuyerB b x = !(x.letters.any (badLetter b))) := by unfold Hid; rw [HBR.out, i1, i2]; rfl
   go_enter Tryz.func8, Tryz.ntmps8
   go_upto_region 1 with fail
   rw [← HW.out]
   refine region_reads (C := fun W1 => Ext W W1) (by kernel_rfl) (by kernel_rfl) ((Ext.refl W).drew) ?_
   repeat (first | go_big_quiet_skip | (go_big_quiet_want; go_big_quiet_op; first | go_big_quiet_on | (refine ⟨_, fun W hW => rfl, ?_⟩; go_big_quiet_on)) | (go_big_quiet_want; refine ⟨?_, fun W hW => ?_, ?_⟩; rotate_left; (· (obtain ⟨c4, c5, b0, b1, b2, b3⟩ := HF.out W hW; go_simp; (first | with_reducible rfl | (go_at_call 26; refine (HPW.out W).mono ?_; rintro e w' ⟨rfl, rfl⟩; constructor; with_reducible rfl; exact hW) | (go_at_call 24; refine (HIN.out _ _ _ _ (by first | with_reducible exact i1 | with_reducible exact i2) W).mono ?_; rintro e w' ⟨rfl, rfl⟩; constructor; with_reducible rfl; exact hW)))); (try simp only [Act.put, yA, yB, yC]); go_big_quiet_on))
   refine wpQuiet_nil ?_
   intro wq hq
   go_wp2
   go_loopw [5] (fun i wr => ∃ k : Nat, k ≤ x.letters.length ∧ i = .int .i64 (k : Int) ∧ Hid ((x.letters.take k).any (badLetter b) = false) ∧ Ext W wr) (fun i _ => x.letters.length - (intOf i).toNat)
   case atStart => exact ⟨0, Nat.zero_le _, rfl, by simp [Hid], hq⟩
   case round =>
    obtain ⟨k, hk, rfl, ha, hx⟩ := hrel
    obtain ⟨wk, rfl⟩ : ∃ wk : World, wk = wr := ⟨_, rfl⟩
    obtain ⟨c4, c5, b0, b1, b2, b3⟩ := HF.out _ hx
    have HX := Lib.hid hx
    have hkl : x.letters.length ≤ 4 := by have := HL.out; omega
    by_cases hlt : k < x.letters.length
    ·have x1 : decide ((k : Int) < (x.letters.length : Int)) = true := by simpa using hlt
     have k1 : (0 : Int) ≤ (k : Int) := by omega
     have k2 : (k : Int) < (x.letters.length : Int) := by omega
     obtain ⟨lb, lo, y, rfl, hyk, d0, d1, d2, d3⟩ := HL3.out k hlt
     have h0 := HX0.out.trans hx
     have e0 := h0.cell d0
     have e1 := h0.cell d1
     have e2 := h0.cell d2
     have e3 := h0.cell d3
     obtain ⟨WP, hWP⟩ : ∃ WP, WP = wk.alloc (.cells #[.int .i64 y.1, .int .i64 y.2.1, .int .i64 y.2.2.1, .int .i64 y.2.2.2] 53) := ⟨_, rfl⟩
     have hxp : Ext wk WP := by rw [hWP]; exact (Ext.refl wk).alloc _
     have q0 : WP.cell? ⟨wk.heap.size, 0, none⟩ = some (.int .i64 y.1) := by rw [hWP]; go_simp
     have q1 : WP.cell? ⟨wk.heap.size, 1, none⟩ = some (.int .i64 y.2.1) := by rw [hWP]; go_simp
     have q2 : WP.cell? ⟨wk.heap.size, 2, none⟩ = some (.int .i64 y.2.2.1) := by rw [hWP]; go_simp
     have q3 : WP.cell? ⟨wk.heap.size, 3, none⟩ = some (.int .i64 y.2.2.2) := by rw [hWP]; go_simp
     have HFZ := Lib.hid (fun W' (h : Ext WP W') => (And.intro (h.cell q0) (And.intro (h.cell q1) (And.intro (h.cell q2) (And.intro (h.cell q3) (HF.out W' (hx.trans (hxp.trans h)))))) : _ ∧ _))
     have HG := Lib.hid (HGO.out y.1)
     have HM := Lib.hid (HI3.out y.2.2.2)
     have HXP := Lib.hid (hx.trans hxp)
     have HA : ∀ r, badLetter b y = r → Hid (badLetter b y = r) := fun r h => h
     have HAT := Lib.hid hyk.out
     clear q0 q1 q2 q3 hx h0 d0 d1 d2 d3 HGO HI3 HIN HPW hyk hxp HBR
     cases i3 : isNumberB b y.1 with
     | false =>
      rw [i3] at HG
      have HB : Hid (badLetter b y = true) := HA _ (by unfold badLetter; rw [i3]; rfl)
      have HRR : Hid (isBuyerB b x = false) := by unfold Hid; rw [HR.out, any_at HAT.out HB.out]; rfl
      clear HA HB ha i3
      go_upto_region 7 with fail
      rw [← hWP]
      clear hWP e0 e1 e2 e3 c4 c5 b0 b1 b2 b3
      have hq := Ext.refl WP
      obtain ⟨q0, q1, q2, q3, c4, c5, b0, b1, b2, b3⟩ := HFZ.out _ hq
      go_wp2_with (first | (go_at_call 25; refine (HG.out _).mono ?_; rintro e w1 ⟨rfl, hx1⟩; replace hq := hq.trans hx1; clear hx1 q0 q1 q2 q3 c4 c5 b0 b1 b2 b3; obtain ⟨q0, q1, q2, q3, c4, c5, b0, b1, b2, b3⟩ := HFZ.out _ hq) | (go_at_call 24; refine (HM.out _).mono ?_; rintro e w1 ⟨rfl, rfl⟩))
      go_ret
      exact ⟨by rw [HRR.out] <;> rfl, HX0.out.trans (HXP.out.trans hq)⟩
     | true =>
      rw [i3] at HG
      cases i4 : decide (y.2.1 < 1) with
      | true =>
       have HB : Hid (badLetter b y = true) := HA _ (by unfold badLetter; rw [i3, i4]; rfl)
       have HRR : Hid (isBuyerB b x = false) := by unfold Hid; rw [HR.out, any_at HAT.out HB.out]; rfl
       clear HA HB ha i3
       go_upto_region 7 with fail
       rw [← hWP]
       clear hWP e0 e1 e2 e3 c4 c5 b0 b1 b2 b3
       have hq := Ext.refl WP
       obtain ⟨q0, q1, q2, q3, c4, c5, b0, b1, b2, b3⟩ := HFZ.out _ hq
       go_wp2_with (first | (go_at_call 25; refine (HG.out _).mono ?_; rintro e w1 ⟨rfl, hx1⟩; replace hq := hq.trans hx1; clear hx1 q0 q1 q2 q3 c4 c5 b0 b1 b2 b3; obtain ⟨q0, q1, q2, q3, c4, c5, b0, b1, b2, b3⟩ := HFZ.out _ hq) | (go_at_call 24; refine (HM.out _).mono ?_; rintro e w1 ⟨rfl, rfl⟩))
       go_ret
       exact ⟨by rw [HRR.out] <;> rfl, HX0.out.trans (HXP.out.trans hq)⟩
      | false =>
       cases i5 : decide (y.2.2.1 < y.2.1) with
       | true =>
        have HB : Hid (badLetter b y = true) := HA _ (by unfold badLetter; rw [i3, i4, i5]; rfl)
        have HRR : Hid (isBuyerB b x = false) := by unfold Hid; rw [HR.out, any_at HAT.out HB.out]; rfl
        clear HA HB ha i3
        go_upto_region 7 with fail
        rw [← hWP]
        clear hWP e0 e1 e2 e3 c4 c5 b0 b1 b2 b3
        have hq := Ext.refl WP
        obtain ⟨q0, q1, q2, q3, c4, c5, b0, b1, b2, b3⟩ := HFZ.out _ hq
        go_wp2_with (first | (go_at_call 25; refine (HG.out _).mono ?_; rintro e w1 ⟨rfl, hx1⟩; replace hq := hq.trans hx1; clear hx1 q0 q1 q2 q3 c4 c5 b0 b1 b2 b3; obtain ⟨q0, q1, q2, q3, c4, c5, b0, b1, b2, b3⟩ := HFZ.out _ hq) | (go_at_call 24; refine (HM.out _).mono ?_; rintro e w1 ⟨rfl, rfl⟩))
        go_ret
        exact ⟨by rw [HRR.out] <;> rfl, HX0.out.trans (HXP.out.trans hq)⟩
       | false =>
        cases i6 : decide (99 < y.2.2.1) with
        | true =>
         have HB : Hid (badLetter b y = true) := HA _ (by unfold badLetter; rw [i3, i4, i5, i6]; rfl)
         have HRR : Hid (isBuyerB b x = false) := by unfold Hid; rw [HR.out, any_at HAT.out HB.out]; rfl
         clear HA HB ha i3
         go_upto_region 7 with fail
         rw [← hWP]
         clear hWP e0 e1 e2 e3 c4 c5 b0 b1 b2 b3
         have hq := Ext.refl WP
         obtain ⟨q0, q1, q2, q3, c4, c5, b0, b1, b2, b3⟩ := HFZ.out _ hq
         go_wp2_with (first | (go_at_call 25; refine (HG.out _).mono ?_; rintro e w1 ⟨rfl, hx1⟩; replace hq := hq.trans hx1; clear hx1 q0 q1 q2 q3 c4 c5 b0 b1 b2 b3; obtain ⟨q0, q1, q2, q3, c4, c5, b0, b1, b2, b3⟩ := HFZ.out _ hq) | (go_at_call 24; refine (HM.out _).mono ?_; rintro e w1 ⟨rfl, rfl⟩))
         go_ret
         exact ⟨by rw [HRR.out] <;> rfl, HX0.out.trans (HXP.out.trans hq)⟩
        | false =>
         cases i7 : inB y.2.2.2 0 1000 with
         | false =>
          rw [i7] at HM
          have HB : Hid (badLetter b y = true) := HA _ (by unfold badLetter; rw [i3, i4, i5, i6, i7]; rfl)
          have HRR : Hid (isBuyerB b x = false) := by unfold Hid; rw [HR.out, any_at HAT.out HB.out]; rfl
          clear HA HB ha i3 i7
          go_upto_region 7 with fail
          rw [← hWP]
          clear hWP e0 e1 e2 e3 c4 c5 b0 b1 b2 b3
          have hq := Ext.refl WP
          obtain ⟨q0, q1, q2, q3, c4, c5, b0, b1, b2, b3⟩ := HFZ.out _ hq
          go_wp2_with (first | (go_at_call 25; refine (HG.out _).mono ?_; rintro e w1 ⟨rfl, hx1⟩; replace hq := hq.trans hx1; clear hx1 q0 q1 q2 q3 c4 c5 b0 b1 b2 b3; obtain ⟨q0, q1, q2, q3, c4, c5, b0, b1, b2, b3⟩ := HFZ.out _ hq) | (go_at_call 24; refine (HM.out _).mono ?_; rintro e w1 ⟨rfl, rfl⟩))
          go_ret
          exact ⟨by rw [HRR.out] <;> rfl, HX0.out.trans (HXP.out.trans hq)⟩
         | true =>
          rw [i7] at HM
          have HB : Hid (badLetter b y = false) := HA _ (by unfold badLetter; rw [i3, i4, i5, i6, i7]; rfl)
          have HN : Hid ((x.letters.take (k + 1)).any (badLetter b) = false) := any_take HAT.out ha.out HB.out
          clear HA HB ha i3 i7
          go_upto_region 7 with fail
          rw [← hWP]
          clear hWP e0 e1 e2 e3 c4 c5 b0 b1 b2 b3
          have hq := Ext.refl WP
          obtain ⟨q0, q1, q2, q3, c4, c5, b0, b1, b2, b3⟩ := HFZ.out _ hq
          go_wp2_with (first | (go_at_call 25; refine (HG.out _).mono ?_; rintro e w1 ⟨rfl, hx1⟩; replace hq := hq.trans hx1; clear hx1 q0 q1 q2 q3 c4 c5 b0 b1 b2 b3; obtain ⟨q0, q1, q2, q3, c4, c5, b0, b1, b2, b3⟩ := HFZ.out _ hq) | (go_at_call 24; refine (HM.out _).mono ?_; rintro e w1 ⟨rfl, rfl⟩))
          exact ⟨⟨k + 1, by omega, by go_num, HN.out, HXP.out.trans hq⟩, by simp [intOf]; omega⟩
    ·have x1 : decide ((k : Int) < (x.letters.length : Int)) = false := by simpa using hlt
     have x2 : decide (k < x.letters.length) = false := by simpa using hlt
     have HRR : Hid (isBuyerB b x = true) := by
      unfold Hid
      have h := ha.out
      rw [List.take_of_length_le (by omega)] at h
      rw [HR.out, h]; rfl
     clear hlt ha
     go_wp2
     go_ret
     exact ⟨by rw [HRR.out] <;> rfl, HX0.out.trans HX.out⟩
end Go.Proofs.YtokananogogjaaaGreatDoor
