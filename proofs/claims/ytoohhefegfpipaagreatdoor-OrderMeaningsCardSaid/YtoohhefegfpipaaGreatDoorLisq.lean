/- The reference's lists of a book, and what it reads off them: Left, Truths, Worst. -/
import Derived.Test.YtoohhefegfpipaaGreatDoorOaj
import Derived.Test.YtoohhefegfpipaaGreatDoorHeldq
import Derived.Test.YtoohhefegfpipaaGreatDoorPlaq
import Derived.Test.YtoohhefegfpipaaGreatDoorOpq
namespace Go.Proofs.YtoohhefegfpipaaGreatDoor
open Go.RowKit
/-- The lists of a book, in memory. -/
def ListsAt (w : World) (v : Value) (b : Book) : Prop := ∃ av mv, v = .agg #[av, mv] ∧ IntRowsAt w av (permsB b) ∧ IntRowsAt w mv ((List.range b.editions.toNat).map (rowM b))
theorem ListsAt.ext {w w' : World} {v : Value} {b : Book} (h : ListsAt w v b) (x : Ext w w') : ListsAt w' v b := by
 obtain ⟨av, mv, rfl, h1, h2⟩ := h
 exact ⟨av, mv, rfl, h1.ext x, h2.ext x⟩
theorem many_bdL {b : Book} (hB : BookB b) {e : Nat} (he : (e : Int) < b.editions) (l : List Int) : 0 ≤ manyB b e l ∧ manyB b e l ≤ 9765625 := by
 refine ⟨many_nonneg b e l, ?_⟩
 have h3 := hB.e3
 have h1 := ahead_le hB e l
 have h2 := back_le hB (b.editions.toNat - 1 - e) e l
 have h4 : manyB b e l ≤ (3125 : Int) ^ e * 3125 ^ (b.editions.toNat - 1 - e) := Int.mul_le_mul h1 h2 (back_nonneg b _ e l) (Int.pow_nonneg (by omega))
 refine Int.le_trans h4 ?_
 rw [← Int.pow_add]
 obtain h | h | h : e + (b.editions.toNat - 1 - e) = 0 ∨ e + (b.editions.toNat - 1 - e) = 1 ∨ e + (b.editions.toNat - 1 - e) = 2 := by omega
 all_goals rw [h]; decide
def fM (b : Book) (e : Nat) (l : List Int) : Int := if allowedB b e l then manyB b e l else 0
def fL (b : Book) (e n : Nat) (g : Int) (l : List Int) : Int := if l.getD n 0 = g then fM b e l else 0
theorem fM_bd {b : Book} (hB : BookB b) {e : Nat} (he : (e : Int) < b.editions) (l : List Int) : 0 ≤ fM b e l ∧ fM b e l ≤ 9765625 := by
 unfold fM
 split
 ·exact many_bdL hB he l
 ·omega
theorem fL_bd {b : Book} (hB : BookB b) {e : Nat} (he : (e : Int) < b.editions) (n : Nat) (g : Int) (l : List Int) : 0 ≤ fL b e n g l ∧ fL b e n g l ≤ 9765625 := by
 unfold fL
 split
 ·exact fM_bd hB he l
 ·omega
theorem fL_all (b : Book) (e n : Nat) (g : Int) : sumTo (fL b e n g) b (permsB b).length = leftB b e n g := by
 rw [sumTo_all, ← left_row]; rfl
theorem fM_all {b : Book} (hB : BookB b) : sumTo (fM b 0) b (permsB b).length = truthsB b := by
 rw [sumTo_all, ← truths_row hB]; rfl
theorem rows_get {b : Book} {e : Nat} (he : e < b.editions.toNat) : ((List.range b.editions.toNat).map (rowM b))[e]? = some (rowM b e) := by rw [List.getElem?_map, List.getElem?_range he]; rfl
set_option maxRecDepth 100000 in
set_option maxHeartbeats 8000000 in
theorem rtruths_any (v : Value) (b : Book) (w : World) (hB : BookB b) (hv : ListsAt w v b) : Calls Tryz.prog 15 #[v] w fun e w' => e = .returned (.int .i64 (truthsB b)) ∧ Ext w w' := by
 obtain ⟨av, mv, rfl, ha, hm⟩ := hv
 obtain ⟨aa, ac, rfl, _, _, _⟩ := ha.open
 obtain ⟨ma, mc, rfl, _, _, m3⟩ := hm.open
 simp only [List.length_map, List.length_range] at m3 ⊢
 have he1 := hB.e1
 obtain ⟨mb, mo, r, ra, rc, rfl, hr, c0, hri, _, _⟩ := m3 0 (by omega)
 rw [rows_get (by omega)] at hr
 obtain rfl : r = rowM b 0 := (Option.some.inj hr.out).symm
 obtain ⟨_, _, hve, _, _, r3⟩ := hri.open
 cases hve
 have hrl : (rowM b 0).length = (permsB b).length := by simp [rowM]
 rw [hrl] at c0 r3
 rw [Nat.add_zero] at c0
 obtain ⟨W, HW⟩ : ∃ W, Hid (W = w.alloc (.cells #[.slice aa (permsB b).length ac, .slice (some ⟨mb, mo, none⟩) b.editions.toNat mc] 35)) := ⟨_, rfl⟩
 have HX0 := Lib.hid (show Ext w W by rw [HW.out]; exact (Ext.refl w).alloc _)
 have HF := Lib.hid (fun W1 (h : Ext W W1) => (⟨h.cell (show W.cell? ⟨w.heap.size, 0, none⟩ = some (.slice aa (permsB b).length ac) by rw [HW.out]; go_simp), h.cell (show W.cell? ⟨w.heap.size, 1, none⟩ = some (.slice (some ⟨mb, mo, none⟩) b.editions.toNat mc) by rw [HW.out]; go_simp), (HX0.out.trans h).cell c0⟩ : _ ∧ _ ∧ _))
 have HR3 := Lib.hid r3
 have HBD := Lib.hid (fun k => sumTo_bd (b := b) (fM_bd hB (e := 0) (by omega)) k)
 have HP := Lib.hid (perms_count hB)
 have HALL := Lib.hid (fM_all hB)
 have HED : Hid (1 ≤ b.editions.toNat) := by unfold Hid; omega
 generalize b.editions.toNat = E at *
 have hE1 := HED.out
 clear ha hm m3 c0 hri r3 hr hrl he1 hB
 go_enter Tryz.func15, Tryz.ntmps15
 go_upto_region 1 with fail
 rw [← HW.out]
 go_wp2
 go_loopw [3, 4] (fun o j wr => ∃ k : Nat, k ≤ (permsB b).length ∧ j = .int .i64 (k : Int) ∧ o = .int .i64 (sumTo (fM b 0) b k) ∧ Ext W wr) (fun _ j _ => (permsB b).length - (intOf j).toNat)
 case atStart => exact ⟨0, Nat.zero_le _, rfl, by rw [sumTo_zero], Ext.refl _⟩
 case round =>
  obtain ⟨k, hk, rfl, rfl, hx⟩ := hrel
  obtain ⟨f0, f1, f2⟩ := HF.out _ hx
  by_cases hlt : k < (permsB b).length
  ·have x1 : decide ((k : Int) < ((permsB b).length : Int)) = true := by simpa using hlt
   obtain ⟨rb, ro, x, rfl, hxk, d0⟩ := HR3.out k hlt
   have hpk : (permsB b)[k]? = some ((permsB b)[k]) := List.getElem?_eq_getElem hlt
   have hxv : x = fM b 0 ((permsB b)[k]) := by
    have h := hxk.out
    rw [rowM_get hpk] at h
    exact (Option.some.inj h).symm
   have HS := Lib.hid (sumTo_succ (f := fM b 0) hpk)
   rw [← hxv] at HS
   have hb0 := HBD.out k
   have hb1 := HBD.out (k + 1)
   have hpl := HP.out
   rw [HS.out] at hb1
   have d1 := (HX0.out.trans hx).cell d0
   have k1 : (0 : Int) ≤ (k : Int) := by omega
   have k2 : (k : Int) < ((permsB b).length : Int) := by omega
   have e0 : (0 : Int) < (E : Int) := by omega
   generalize sumTo (fM b 0) b k = s at *
   have hw1 : IntKind.i64.wrap (s + x) = s + x := IntWalk.i64_in _ (by omega)
   have HX := Lib.hid hx
   clear hxk hpk hxv hb0 hb1 hpl d0 hx HR3
   go_wp2
   exact ⟨⟨k + 1, by omega, by go_num, by rw [HS.out], HX.out⟩, by simp [intOf]; omega⟩
  ·have hke : k = (permsB b).length := by omega
   have x1 : decide ((k : Int) < ((permsB b).length : Int)) = false := by simpa using hlt
   have HR : Hid (sumTo (fM b 0) b k = truthsB b) := by unfold Hid; rw [hke]; exact HALL.out
   have HX := Lib.hid (HX0.out.trans hx)
   clear hke hx
   go_wp2
   go_ret
   exact ⟨by rw [HR.out] <;> rfl, HX.out⟩
set_option maxRecDepth 100000 in
set_option maxHeartbeats 8000000 in
theorem rleft_any (v : Value) (b : Book) (e n : Nat) (g : Int) (w : World) (hB : BookB b) (he : (e : Int) < b.editions) (hn : n < b.goods.length) (hv : ListsAt w v b) : Calls Tryz.prog 73 #[v, .int .i64 (e : Int), .int .i64 (n : Int), .int .i64 g] w fun r w' => r = .returned (.int .i64 (leftB b e n g)) ∧ Ext w w' := by
 obtain ⟨av, mv, rfl, ha, hm⟩ := hv
 obtain ⟨aa, ac, rfl, _, _, a3⟩ := ha.open
 obtain ⟨ma, mc, rfl, _, _, m3⟩ := hm.open
 simp only [List.length_map, List.length_range] at m3 ⊢
 obtain ⟨mb, mo, r, ra, rc, rfl, hr, c0, hri, _, _⟩ := m3 e (by omega)
 rw [rows_get (by omega)] at hr
 obtain rfl : r = rowM b e := (Option.some.inj hr.out).symm
 obtain ⟨_, _, hve, _, _, r3⟩ := hri.open
 cases hve
 have hrl : (rowM b e).length = (permsB b).length := by simp [rowM]
 rw [hrl] at c0 r3
 obtain ⟨W, HW⟩ : ∃ W, Hid (W = w.alloc (.cells #[.slice aa (permsB b).length ac, .slice (some ⟨mb, mo, none⟩) b.editions.toNat mc] 35)) := ⟨_, rfl⟩
 have HX0 := Lib.hid (show Ext w W by rw [HW.out]; exact (Ext.refl w).alloc _)
 have HF := Lib.hid (fun W1 (h : Ext W W1) => (⟨h.cell (show W.cell? ⟨w.heap.size, 0, none⟩ = some (.slice aa (permsB b).length ac) by rw [HW.out]; go_simp), h.cell (show W.cell? ⟨w.heap.size, 1, none⟩ = some (.slice (some ⟨mb, mo, none⟩) b.editions.toNat mc) by rw [HW.out]; go_simp), (HX0.out.trans h).cell c0⟩ : _ ∧ _ ∧ _))
 have HR3 := Lib.hid r3
 have HA3 := Lib.hid a3
 have HBD := Lib.hid (fun k => sumTo_bd (b := b) (fL_bd hB he n g) k)
 have HP := Lib.hid (perms_count hB)
 have HALL := Lib.hid (fL_all b e n g)
 have HED : Hid (e < b.editions.toNat) := by unfold Hid; omega
 have HPL : Hid (∀ l, l ∈ permsB b → l.length = b.goods.length) := fun l hl => (perms_mem.1 hl).1
 generalize b.editions.toNat = E at *
 have hE1 := HED.out
 clear ha hm m3 c0 hri r3 hr hrl hB a3
 go_enter Tryz.func73, Tryz.ntmps73
 go_upto_region 1 with fail
 rw [← HW.out]
 go_wp2
 go_loopw [9, 10] (fun o j wr => ∃ k : Nat, k ≤ (permsB b).length ∧ j = .int .i64 (k : Int) ∧ o = .int .i64 (sumTo (fL b e n g) b k) ∧ Ext W wr) (fun _ j _ => (permsB b).length - (intOf j).toNat)
 case atStart => exact ⟨0, Nat.zero_le _, rfl, by rw [sumTo_zero], Ext.refl _⟩
 case round =>
  obtain ⟨k, hk, rfl, rfl, hx⟩ := hrel
  obtain ⟨f0, f1, f2⟩ := HF.out _ hx
  by_cases hlt : k < (permsB b).length
  ·have x1 : decide ((k : Int) < ((permsB b).length : Int)) = true := by simpa using hlt
   obtain ⟨rb, ro, x, rfl, hxk, d0⟩ := HR3.out k hlt
   obtain ⟨ab, ao, l, la, lc, rfl, hpk, d2, hli, _, _⟩ := HA3.out k hlt
   obtain ⟨_, _, hve, _, _, l3⟩ := hli.open
   cases hve
   have hll := HPL.out l (List.mem_of_getElem? hpk.out)
   obtain ⟨lb, lo, y, rfl, hyn, d4⟩ := l3 n (by omega)
   have hxv : x = fM b e l := by
    have h := hxk.out
    rw [rowM_get hpk.out] at h
    exact (Option.some.inj h).symm
   have hfl : fL b e n g l = if y = g then x else 0 := by unfold fL; rw [List.getD_eq_getElem?_getD, hyn.out, hxv]; rfl
   have HS := Lib.hid (sumTo_succ (f := fL b e n g) hpk.out)
   rw [hfl] at HS
   have hb0 := HBD.out k
   have hb1 := HBD.out (k + 1)
   have hpl := HP.out
   rw [HS.out] at hb1
   have d1 := (HX0.out.trans hx).cell d0
   have d3 := (HX0.out.trans hx).cell d2
   have d5 := (HX0.out.trans hx).cell d4
   have k1 : (0 : Int) ≤ (k : Int) := by omega
   have k2 : (k : Int) < ((permsB b).length : Int) := by omega
   have n1 : (0 : Int) ≤ (n : Int) := by omega
   have n2 : (n : Int) < (l.length : Int) := by omega
   have e1 : (0 : Int) ≤ (e : Int) := by omega
   have e2 : (e : Int) < (E : Int) := by omega
   generalize sumTo (fL b e n g) b k = s at *
   have HX := Lib.hid hx
   by_cases hyg : y = g
   ·rw [if_pos hyg] at hb1 HS
    have q : (y == g) = true := by simpa using hyg
    have q2 : decide (y = g) = true := by simpa using hyg
    have hw1 : IntKind.i64.wrap (s + x) = s + x := IntWalk.i64_in _ (by omega)
    clear hxk hpk hxv hb0 hb1 hpl d0 d2 d4 hx HR3 HA3 hli l3 hll hyn hfl hyg
    go_wp2
    exact ⟨⟨k + 1, by omega, by go_num, by rw [HS.out], HX.out⟩, by simp [intOf]; omega⟩
   ·rw [if_neg hyg] at hb1 HS
    have q : (y == g) = false := beq_eq_false_iff_ne.2 hyg
    have q2 : decide (y = g) = false := by simpa using hyg
    clear hxk hpk hxv hb0 hb1 hpl d0 d2 d4 hx HR3 HA3 hli l3 hll hyn hfl hyg
    go_wp2
    exact ⟨⟨k + 1, by omega, by go_num, by rw [HS.out, Int.add_zero], HX.out⟩, by simp [intOf]; omega⟩
  ·have hke : k = (permsB b).length := by omega
   have x1 : decide ((k : Int) < ((permsB b).length : Int)) = false := by simpa using hlt
   have HR : Hid (sumTo (fL b e n g) b k = leftB b e n g) := by unfold Hid; rw [hke]; exact HALL.out
   have HX := Lib.hid (HX0.out.trans hx)
   clear hke hx
   go_wp2
   go_ret
   exact ⟨by rw [HR.out] <;> rfl, HX.out⟩
end Go.Proofs.YtoohhefegfpipaaGreatDoor

/- The reference's Means and Numbers. -/
namespace Go.Proofs.YtoohhefegfpipaaGreatDoor
open Go.RowKit
/-- The numbers below k of which something is left. -/
def gtTo (f : Nat → Int) (k : Nat) : List Int := ((List.range k).filter fun i => decide (0 < f i)).map fun i : Nat => (i : Int)
theorem gt_succ (f : Nat → Int) (k : Nat) : gtTo f (k + 1) = gtTo f k ++ (if 0 < f k then [(k : Int)] else []) := by
 unfold gtTo
 rw [List.range_succ, List.filter_append, List.map_append]
 congr 1
 by_cases h : 0 < f k <;> simp [h]
theorem gt_len (f : Nat → Int) (k : Nat) : (gtTo f k).length ≤ k := by
 unfold gtTo
 rw [List.length_map]
 have := List.length_filter_le (fun i => decide (0 < f i)) (List.range k)
 simpa using this
set_option maxRecDepth 100000 in
set_option maxHeartbeats 8000000 in
theorem rmeans_any (bv v : Value) (b : Book) (e : Nat) (n : Nat) (w : World) (hB : BookB b) (he : (e : Int) < b.editions) (hn : n < b.goods.length) (hb : BookAt w bv b) (hv : ListsAt w v b) :
 Calls Tryz.prog 28 #[bv, v, .int .i64 (e : Int), .int .i64 (n : Int)] w fun r w' => ∃ u, r = .returned u ∧ IntsAt w' u (gtTo (fun g : Nat => leftB b e n g) b.goods.length) ∧ Ext w w' := by
 have HLA := Lib.hid (fun W1 (h : Ext w W1) => hv.ext h)
 have HBA := Lib.hid (fun W1 (h : Ext w W1) => hb.ext h)
 obtain ⟨ga, gc, ea, ec, rfl, hgl, hel⟩ := hb.open
 obtain ⟨av, mv, rfl, ha, hm⟩ := hv
 obtain ⟨aa, ac, rfl, _, _, _⟩ := ha.open
 obtain ⟨ma, mc, rfl, _, _, _⟩ := hm.open
 simp only [List.length_map, List.length_range] at HLA ⊢
 obtain ⟨W, hW⟩ : ∃ W, W = (w.alloc (bookBox (.slice ga b.goods.length gc) b (.slice ea b.entries.length ec))).alloc (.cells #[.slice aa (permsB b).length ac, .slice ma b.editions.toNat mc] 35) := ⟨_, rfl⟩
 have hx0 : Ext w W := by rw [hW]; exact ((Ext.refl w).alloc _).alloc _
 have HX0 := Lib.hid hx0
 have HF := Lib.hid (fun W1 (h : Ext W W1) => And.intro (BoxAt.ext (show BoxAt W w.heap.size (.slice ga b.goods.length gc) b (.slice ea b.entries.length ec) by rw [hW]; exact (BoxAt.new _ _ _ _).ext ((Ext.refl _).alloc _)) h) (And.intro (h.cell (show W.cell? ⟨w.heap.size + 1, 0, none⟩ = some (.slice aa (permsB b).length ac) by rw [hW]; go_simp)) (h.cell (show W.cell? ⟨w.heap.size + 1, 1, none⟩ = some (.slice ma b.editions.toNat mc) by rw [hW]; go_simp))))
 have HLE := Lib.hid (fun (k : Nat) (hk : k < b.goods.length) W1 (h : Ext w W1) => rleft_any _ b e n (k : Int) W1 hB he hn (HLA.out W1 h))
 have hg5 := hB.g5
 clear hb ha hm hB he hx0 hn
 go_enter Tryz.func28, Tryz.ntmps28
 go_upto_region 1 with fail
 rw [← hW]
 clear hW
 go_wp2
 go_loopw [9, 10] (fun o j wr => ∃ k : Nat, k ≤ b.goods.length ∧ j = .int .i64 (k : Int) ∧ Hid (wr.ownsRow W.heap.size 3 1 o (gtTo (fun g : Nat => leftB b e n g) k).length ((gtTo (fun g : Nat => leftB b e n g) k).map (.int .i64))) ∧ Ext W wr) (fun _ j _ => b.goods.length - (intOf j).toNat)
 case atStart => exact ⟨0, Nat.zero_le _, rfl, World.ownsRow_nil _ _ _ _, Ext.refl _⟩
 case round =>
  obtain ⟨k, hk, rfl, hown, hx⟩ := hrel
  obtain ⟨⟨b0, b1, b2, b3⟩, m0, m1⟩ := HF.out _ hx
  by_cases hlt : k < b.goods.length
  ·have x1 : decide ((k : Int) < (b.goods.length : Int)) = true := by simpa using hlt
   have HLK := Lib.hid (HLE.out k hlt)
   have hsz := gt_len (fun g : Nat => leftB b e n g) k
   have HSZ := Lib.hid (show (gtTo (fun g : Nat => leftB b e n g) k).length + 1 ≤ maxLen ∧ ((gtTo (fun g : Nat => leftB b e n g) k).length + 1) * 8 ≤ 140737488355328 by unfold maxLen; omega)
   have HSC : Hid (gtTo (fun g : Nat => leftB b e n g) (k + 1) = gtTo (fun g : Nat => leftB b e n g) k ++ (if 0 < leftB b e (n : Int) (k : Int) then [(k : Int)] else [])) := gt_succ _ k
   obtain ⟨_, _, rfl, _⟩ := RowAt.open (RowAt.of_owns hown.out)
   have HX := Lib.hid hx
   generalize gtTo (fun g : Nat => leftB b e n g) k = xs at *
   have HOWN := Lib.hid hown.out
   clear hx HLE hsz hown
   by_cases hp : 0 < leftB b e (n : Int) (k : Int)
   ·rw [if_pos hp] at HSC
    generalize leftB b e (n : Int) (k : Int) = L at *
    have x2 : decide (0 < L) = true := by simpa using hp
    clear hp
    go_wp2_with (first
     | (go_at_call 73; refine (HLK.out _ (HX0.out.trans HX.out)).mono ?_; rintro e w1 ⟨rfl, hx1⟩; have HX1 := Lib.hid hx1; clear hx1 HLK)
     | (at_builtin; refine wpList_push_at E_ints rfl _ _ rfl W.heap.size rfl (owns_ext HOWN.out HX1.out) rfl rfl rfl (by simp [Value.oneCell']) ?_ HSZ.out.1 HSZ.out.2 (HX.out.trans HX1.out).size; intro g cap w5 hown5 hext5 _ _; have HO5 := Lib.hid hown5; have HX5 := Lib.hid (hext5 _ (HX.out.trans HX1.out) (Nat.le_refl _)); clear hown5 hext5))
    exact ⟨⟨k + 1, by omega, by go_num, by unfold Hid; rw [HSC.out, List.length_append, List.map_append]; exact HO5.out, HX5.out⟩, by simp [intOf]; omega⟩
   ·rw [if_neg hp, List.append_nil] at HSC
    generalize leftB b e (n : Int) (k : Int) = L at *
    have x2 : decide (0 < L) = false := by simpa using hp
    clear hp
    go_wp2_with (go_at_call 73; refine (HLK.out _ (HX0.out.trans HX.out)).mono ?_; rintro e w1 ⟨rfl, hx1⟩; have HX1 := Lib.hid hx1; clear hx1 HLK)
    exact ⟨⟨k + 1, by omega, by go_num, by unfold Hid; rw [HSC.out]; exact owns_ext HOWN.out HX1.out, HX.out.trans HX1.out⟩, by simp [intOf]; omega⟩
  ·have x1 : decide ((k : Int) < (b.goods.length : Int)) = false := by simpa using hlt
   have hke : k = b.goods.length := by omega
   have HR := Lib.hid (show IntsAt wr _ (gtTo (fun g : Nat => leftB b e n g) b.goods.length) by rw [← hke]; exact IntsAt.of_owns hown.out)
   have HX := Lib.hid (HX0.out.trans hx)
   clear hke hx hown
   go_wp2
   go_ret
   exact ⟨_, rfl, HR.out, HX.out⟩
set_option maxRecDepth 100000 in
set_option maxHeartbeats 8000000 in
theorem rnumbers_any (bv v : Value) (b : Book) (e : Nat) (g : Int) (w : World) (hB : BookB b) (he : (e : Int) < b.editions) (hb : BookAt w bv b) (hv : ListsAt w v b) :
 Calls Tryz.prog 29 #[bv, v, .int .i64 (e : Int), .int .i64 g] w fun r w' => ∃ u, r = .returned u ∧ IntsAt w' u (gtTo (fun n : Nat => leftB b e n g) b.goods.length) ∧ Ext w w' := by
 have HLA := Lib.hid (fun W1 (h : Ext w W1) => hv.ext h)
 have HBA := Lib.hid (fun W1 (h : Ext w W1) => hb.ext h)
 obtain ⟨ga, gc, ea, ec, rfl, hgl, hel⟩ := hb.open
 obtain ⟨av, mv, rfl, ha, hm⟩ := hv
 obtain ⟨aa, ac, rfl, _, _, _⟩ := ha.open
 obtain ⟨ma, mc, rfl, _, _, _⟩ := hm.open
 simp only [List.length_map, List.length_range] at HLA ⊢
 obtain ⟨W, hW⟩ : ∃ W, W = (w.alloc (bookBox (.slice ga b.goods.length gc) b (.slice ea b.entries.length ec))).alloc (.cells #[.slice aa (permsB b).length ac, .slice ma b.editions.toNat mc] 35) := ⟨_, rfl⟩
 have hx0 : Ext w W := by rw [hW]; exact ((Ext.refl w).alloc _).alloc _
 have HX0 := Lib.hid hx0
 have HF := Lib.hid (fun W1 (h : Ext W W1) => And.intro (BoxAt.ext (show BoxAt W w.heap.size (.slice ga b.goods.length gc) b (.slice ea b.entries.length ec) by rw [hW]; exact (BoxAt.new _ _ _ _).ext ((Ext.refl _).alloc _)) h) (And.intro (h.cell (show W.cell? ⟨w.heap.size + 1, 0, none⟩ = some (.slice aa (permsB b).length ac) by rw [hW]; go_simp)) (h.cell (show W.cell? ⟨w.heap.size + 1, 1, none⟩ = some (.slice ma b.editions.toNat mc) by rw [hW]; go_simp))))
 have HLE := Lib.hid (fun (k : Nat) (hk : k < b.goods.length) W1 (h : Ext w W1) => rleft_any _ b e k g W1 hB he hk (HLA.out W1 h))
 have hg5 := hB.g5
 clear hb ha hm hB he hx0
 go_enter Tryz.func29, Tryz.ntmps29
 go_upto_region 1 with fail
 rw [← hW]
 clear hW
 go_wp2
 go_loopw [9, 10] (fun o j wr => ∃ k : Nat, k ≤ b.goods.length ∧ j = .int .i64 (k : Int) ∧ Hid (wr.ownsRow W.heap.size 3 1 o (gtTo (fun n : Nat => leftB b e n g) k).length ((gtTo (fun n : Nat => leftB b e n g) k).map (.int .i64))) ∧ Ext W wr) (fun _ j _ => b.goods.length - (intOf j).toNat)
 case atStart => exact ⟨0, Nat.zero_le _, rfl, World.ownsRow_nil _ _ _ _, Ext.refl _⟩
 case round =>
  obtain ⟨k, hk, rfl, hown, hx⟩ := hrel
  obtain ⟨⟨b0, b1, b2, b3⟩, m0, m1⟩ := HF.out _ hx
  by_cases hlt : k < b.goods.length
  ·have x1 : decide ((k : Int) < (b.goods.length : Int)) = true := by simpa using hlt
   have HLK := Lib.hid (HLE.out k hlt)
   have hsz := gt_len (fun n : Nat => leftB b e n g) k
   have HSZ := Lib.hid (show (gtTo (fun n : Nat => leftB b e n g) k).length + 1 ≤ maxLen ∧ ((gtTo (fun n : Nat => leftB b e n g) k).length + 1) * 8 ≤ 140737488355328 by unfold maxLen; omega)
   have HSC : Hid (gtTo (fun n : Nat => leftB b e n g) (k + 1) = gtTo (fun n : Nat => leftB b e n g) k ++ (if 0 < leftB b e (k : Int) g then [(k : Int)] else [])) := gt_succ _ k
   obtain ⟨_, _, rfl, _⟩ := RowAt.open (RowAt.of_owns hown.out)
   have HX := Lib.hid hx
   generalize gtTo (fun n : Nat => leftB b e n g) k = xs at *
   have HOWN := Lib.hid hown.out
   clear hx HLE hsz hown
   by_cases hp : 0 < leftB b e (k : Int) g
   ·rw [if_pos hp] at HSC
    generalize leftB b e (k : Int) g = L at *
    have x2 : decide (0 < L) = true := by simpa using hp
    clear hp
    go_wp2_with (first
     | (go_at_call 73; refine (HLK.out _ (HX0.out.trans HX.out)).mono ?_; rintro e w1 ⟨rfl, hx1⟩; have HX1 := Lib.hid hx1; clear hx1 HLK)
     | (at_builtin; refine wpList_push_at E_ints rfl _ _ rfl W.heap.size rfl (owns_ext HOWN.out HX1.out) rfl rfl rfl (by simp [Value.oneCell']) ?_ HSZ.out.1 HSZ.out.2 (HX.out.trans HX1.out).size; intro g cap w5 hown5 hext5 _ _; have HO5 := Lib.hid hown5; have HX5 := Lib.hid (hext5 _ (HX.out.trans HX1.out) (Nat.le_refl _)); clear hown5 hext5))
    exact ⟨⟨k + 1, by omega, by go_num, by unfold Hid; rw [HSC.out, List.length_append, List.map_append]; exact HO5.out, HX5.out⟩, by simp [intOf]; omega⟩
   ·rw [if_neg hp, List.append_nil] at HSC
    generalize leftB b e (k : Int) g = L at *
    have x2 : decide (0 < L) = false := by simpa using hp
    clear hp
    go_wp2_with (go_at_call 73; refine (HLK.out _ (HX0.out.trans HX.out)).mono ?_; rintro e w1 ⟨rfl, hx1⟩; have HX1 := Lib.hid hx1; clear hx1 HLK)
    exact ⟨⟨k + 1, by omega, by go_num, by unfold Hid; rw [HSC.out]; exact owns_ext HOWN.out HX1.out, HX.out.trans HX1.out⟩, by simp [intOf]; omega⟩
  ·have x1 : decide ((k : Int) < (b.goods.length : Int)) = false := by simpa using hlt
   have hke : k = b.goods.length := by omega
   have HR := Lib.hid (show IntsAt wr _ (gtTo (fun n : Nat => leftB b e n g) b.goods.length) by rw [← hke]; exact IntsAt.of_owns hown.out)
   have HX := Lib.hid (HX0.out.trans hx)
   clear hke hx hown
   go_wp2
   go_ret
   exact ⟨_, rfl, HR.out, HX.out⟩
end Go.Proofs.YtoohhefegfpipaaGreatDoor
