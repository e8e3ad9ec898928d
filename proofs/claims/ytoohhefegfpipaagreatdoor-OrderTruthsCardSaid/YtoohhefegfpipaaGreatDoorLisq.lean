/- The reference's lists of a book, and what it reads off them: Left, Truths, Worst. -/
import Derived.Test.YtoohhefegfpipaaGreatDoorOaj
import Derived.Test.YtoohhefegfpipaaGreatDoorHeld
import Derived.Test.YtoohhefegfpipaaGreatDoorPlaq
namespace Go.Proofs.YtoohhefegfpipaaGreatDoor
open Go.RowKit
/-- The lists of a book, in memory. -/
def ListsAt (w : World) (v : Value) (b : Book) : Prop := ∃ av mv, v = .agg #[av, mv] ∧ IntRowsAt w av (permsB b) ∧ IntRowsAt w mv ((List.range b.editions.toNat).map (rowM b))
theorem ListsAt.ext {w w' : World} {v : Value} {b : Book} (h : ListsAt w v b) (x : Ext w w') : ListsAt w' v b := by
 obtain ⟨av, mv, rfl, h1, h2⟩ := h
 exact ⟨av, mv, rfl, h1.ext x, h2.ext x⟩
theorem many_bdL {b : Book} (hB : BookB b) {e : Nat} (he : (e : Int) < b.editions) (l : List Int) : 0 ≤ manyB b e l ∧ manyB b e l ≤ 9765625 := by
 refine ⟨many_nonneg b e l, ?_⟩
 have h3 := hB.e3
 have h1 := ahead_le hB e l
 have h2 := back_le hB (b.editions.toNat - 1 - e) e l
 have h4 : manyB b e l ≤ (3125 : Int) ^ e * 3125 ^ (b.editions.toNat - 1 - e) := Int.mul_le_mul h1 h2 (back_nonneg b _ e l) (Int.pow_nonneg (by omega))
 refine Int.le_trans h4 ?_
 rw [← Int.pow_add]
 obtain h | h | h : e + (b.editions.toNat - 1 - e) = 0 ∨ e + (b.editions.toNat - 1 - e) = 1 ∨ e + (b.editions.toNat - 1 - e) = 2 := by omega
 all_goals rw [h]; decide
def fM (b : Book) (e : Nat) (l : List Int) : Int := if allowedB b e l then manyB b e l else 0
def fL (b : Book) (e n : Nat) (g : Int) (l : List Int) : Int := if l.getD n 0 = g then fM b e l else 0
theorem fM_bd {b : Book} (hB : BookB b) {e : Nat} (he : (e : Int) < b.editions) (l : List Int) : 0 ≤ fM b e l ∧ fM b e l ≤ 9765625 := by
 unfold fM
 split
 ·exact many_bdL hB he l
 ·omega
theorem fL_bd {b : Book} (hB : BookB b) {e : Nat} (he : (e : Int) < b.editions) (n : Nat) (g : Int) (l : List Int) : 0 ≤ fL b e n g l ∧ fL b e n g l ≤ 9765625 := by
 unfold fL
 split
 ·exact fM_bd hB he l
 ·omega
theorem fL_all (b : Book) (e n : Nat) (g : Int) : sumTo (fL b e n g) b (permsB b).length = leftB b e n g := by
 rw [sumTo_all, ← left_row]; rfl
theorem fM_all {b : Book} (hB : BookB b) : sumTo (fM b 0) b (permsB b).length = truthsB b := by
 rw [sumTo_all, ← truths_row hB]; rfl
theorem rows_get {b : Book} {e : Nat} (he : e < b.editions.toNat) : ((List.range b.editions.toNat).map (rowM b))[e]? = some (rowM b e) := by rw [List.getElem?_map, List.getElem?_range he]; rfl
set_option maxRecDepth 100000 in
set_option maxHeartbeats 8000000 in
theorem rtruths_any (v : Value) (b : Book) (w : World) (hB : BookB b) (hv : ListsAt w v b) : Calls Tryz.prog 15 #[v] w fun e w' => e = .returned (.int .i64 (truthsB b)) ∧ Ext w w' := by
 obtain ⟨av, mv, rfl, ha, hm⟩ := hv
 obtain ⟨aa, ac, rfl, _, _, _⟩ := ha.open
 obtain ⟨ma, mc, rfl, _, _, m3⟩ := hm.open
 simp only [List.length_map, List.length_range] at m3 ⊢
 have he1 := hB.e1
 obtain ⟨mb, mo, r, ra, rc, rfl, hr, c0, hri, _, _⟩ := m3 0 (by omega)
 rw [rows_get (by omega)] at hr
 obtain rfl : r = rowM b 0 := (Option.some.inj hr.out).symm
 obtain ⟨_, _, hve, _, _, r3⟩ := hri.open
 cases hve
 have hrl : (rowM b 0).length = (permsB b).length := by simp [rowM]
 rw [hrl] at c0 r3
 rw [Nat.add_zero] at c0
 obtain ⟨W, HW⟩ : ∃ W, Hid (W = w.alloc (.cells #[.slice aa (permsB b).length ac, .slice (some ⟨mb, mo, none⟩) b.editions.toNat mc] 35)) := ⟨_, rfl⟩
 have HX0 := Lib.hid (show Ext w W by rw [HW.out]; exact (Ext.refl w).alloc _)
 have HF := Lib.hid (fun W1 (h : Ext W W1) => (⟨h.cell (show W.cell? ⟨w.heap.size, 0, none⟩ = some (.slice aa (permsB b).length ac) by rw [HW.out]; go_simp), h.cell (show W.cell? ⟨w.heap.size, 1, none⟩ = some (.slice (some ⟨mb, mo, none⟩) b.editions.toNat mc) by rw [HW.out]; go_simp), (HX0.out.trans h).cell c0⟩ : _ ∧ _ ∧ _))
 have HR3 := Lib.hid r3
 have HBD := Lib.hid (fun k => sumTo_bd (b := b) (fM_bd hB (e := 0) (by omega)) k)
 have HP := Lib.hid (perms_count hB)
 have HALL := Lib.hid (fM_all hB)
 have HED : Hid (1 ≤ b.editions.toNat) := by unfold Hid; omega
 generalize b.editions.toNat = E at *
 have hE1 := HED.out
 clear ha hm m3 c0 hri r3 hr hrl he1 hB
 go_enter Tryz.func15, Tryz.ntmps15
 go_upto_region 1 with fail
 rw [← HW.out]
 go_wp2
 go_loopw [3, 4] (fun o j wr => ∃ k : Nat, k ≤ (permsB b).length ∧ j = .int .i64 (k : Int) ∧ o = .int .i64 (sumTo (fM b 0) b k) ∧ Ext W wr) (fun _ j _ => (permsB b).length - (intOf j).toNat)
 case atStart => exact ⟨0, Nat.zero_le _, rfl, by rw [sumTo_zero], Ext.refl _⟩
 case round =>
  obtain ⟨k, hk, rfl, rfl, hx⟩ := hrel
  obtain ⟨f0, f1, f2⟩ := HF.out _ hx
  by_cases hlt : k < (permsB b).length
  ·have x1 : decide ((k : Int) < ((permsB b).length : Int)) = true := by simpa using hlt
   obtain ⟨rb, ro, x, rfl, hxk, d0⟩ := HR3.out k hlt
   have hpk : (permsB b)[k]? = some ((permsB b)[k]) := List.getElem?_eq_getElem hlt
   have hxv : x = fM b 0 ((permsB b)[k]) := by
    have h := hxk.out
    rw [rowM_get hpk] at h
    exact (Option.some.inj h).symm
   have HS := Lib.hid (sumTo_succ (f := fM b 0) hpk)
   rw [← hxv] at HS
   have hb0 := HBD.out k
   have hb1 := HBD.out (k + 1)
   have hpl := HP.out
   rw [HS.out] at hb1
   have d1 := (HX0.out.trans hx).cell d0
   have k1 : (0 : Int) ≤ (k : Int) := by omega
   have k2 : (k : Int) < ((permsB b).length : Int) := by omega
   have e0 : (0 : Int) < (E : Int) := by omega
   generalize sumTo (fM b 0) b k = s at *
   have hw1 : IntKind.i64.wrap (s + x) = s + x := IntWalk.i64_in _ (by omega)
   have HX := Lib.hid hx
   clear hxk hpk hxv hb0 hb1 hpl d0 hx HR3
   go_wp2
   exact ⟨⟨k + 1, by omega, by go_num, by rw [HS.out], HX.out⟩, by simp [intOf]; omega⟩
  ·have hke : k = (permsB b).length := by omega
   have x1 : decide ((k : Int) < ((permsB b).length : Int)) = false := by simpa using hlt
   have HR : Hid (sumTo (fM b 0) b k = truthsB b) := by unfold Hid; rw [hke]; exact HALL.out
   have HX := Lib.hid (HX0.out.trans hx)
   clear hke hx
   go_wp2
   go_ret
   exact ⟨by rw [HR.out] <;> rfl, HX.out⟩
set_option maxRecDepth 100000 in
set_option maxHeartbeats 8000000 in
theorem rleft_any (v : Value) (b : Book) (e n : Nat) (g : Int) (w : World) (hB : BookB b) (he : (e : Int) < b.editions) (hn : n < b.goods.length) (hv : ListsAt w v b) : Calls Tryz.prog 73 #[v, .int .i64 (e : Int), .int .i64 (n : Int), .int .i64 g] w fun r w' => r = .returned (.int .i64 (leftB b e n g)) ∧ Ext w w' := by
 obtain ⟨av, mv, rfl, ha, hm⟩ := hv
 obtain ⟨aa, ac, rfl, _, _, a3⟩ := ha.open
 obtain ⟨ma, mc, rfl, _, _, m3⟩ := hm.open
 simp only [List.length_map, List.length_range] at m3 ⊢
 obtain ⟨mb, mo, r, ra, rc, rfl, hr, c0, hri, _, _⟩ := m3 e (by omega)
 rw [rows_get (by omega)] at hr
 obtain rfl : r = rowM b e := (Option.some.inj hr.out).symm
 obtain ⟨_, _, hve, _, _, r3⟩ := hri.open
 cases hve
 have hrl : (rowM b e).length = (permsB b).length := by simp [rowM]
 rw [hrl] at c0 r3
 obtain ⟨W, HW⟩ : ∃ W, Hid (W = w.alloc (.cells #[.slice aa (permsB b).length ac, .slice (some ⟨mb, mo, none⟩) b.editions.toNat mc] 35)) := ⟨_, rfl⟩
 have HX0 := Lib.hid (show Ext w W by rw [HW.out]; exact (Ext.refl w).alloc _)
 have HF := Lib.hid (fun W1 (h : Ext W W1) => (⟨h.cell (show W.cell? ⟨w.heap.size, 0, none⟩ = some (.slice aa (permsB b).length ac) by rw [HW.out]; go_simp), h.cell (show W.cell? ⟨w.heap.size, 1, none⟩ = some (.slice (some ⟨mb, mo, none⟩) b.editions.toNat mc) by rw [HW.out]; go_simp), (HX0.out.trans h).cell c0⟩ : _ ∧ _ ∧ _))
 have HR3 := Lib.hid r3
 have HA3 := Lib.hid a3
 have HBD := Lib.hid (fun k => sumTo_bd (b := b) (fL_bd hB he n g) k)
 have HP := Lib.hid (perms_count hB)
 have HALL := Lib.hid (fL_all b e n g)
 have HED : Hid (e < b.editions.toNat) := by unfold Hid; omega
 have HPL : Hid (∀ l, l ∈ permsB b → l.length = b.goods.length) := fun l hl => (perms_mem.1 hl).1
 generalize b.editions.toNat = E at *
 have hE1 := HED.out
 clear ha hm m3 c0 hri r3 hr hrl hB a3
 go_enter Tryz.func73, Tryz.ntmps73
 go_upto_region 1 with fail
 rw [← HW.out]
 go_wp2
 go_loopw [9, 10] (fun o j wr => ∃ k : Nat, k ≤ (permsB b).length ∧ j = .int .i64 (k : Int) ∧ o = .int .i64 (sumTo (fL b e n g) b k) ∧ Ext W wr) (fun _ j _ => (permsB b).length - (intOf j).toNat)
 case atStart => exact ⟨0, Nat.zero_le _, rfl, by rw [sumTo_zero], Ext.refl _⟩
 case round =>
  obtain ⟨k, hk, rfl, rfl, hx⟩ := hrel
  obtain ⟨f0, f1, f2⟩ := HF.out _ hx
  by_cases hlt : k < (permsB b).length
  ·have x1 : decide ((k : Int) < ((permsB b).length : Int)) = true := by simpa using hlt
   obtain ⟨rb, ro, x, rfl, hxk, d0⟩ := HR3.out k hlt
   obtain ⟨ab, ao, l, la, lc, rfl, hpk, d2, hli, _, _⟩ := HA3.out k hlt
   obtain ⟨_, _, hve, _, _, l3⟩ := hli.open
   cases hve
   have hll := HPL.out l (List.mem_of_getElem? hpk.out)
   obtain ⟨lb, lo, y, rfl, hyn, d4⟩ := l3 n (by omega)
   have hxv : x = fM b e l := by
    have h := hxk.out
    rw [rowM_get hpk.out] at h
    exact (Option.some.inj h).symm
   have hfl : fL b e n g l = if y = g then x else 0 := by unfold fL; rw [List.getD_eq_getElem?_getD, hyn.out, hxv]; rfl
   have HS := Lib.hid (sumTo_succ (f := fL b e n g) hpk.out)
   rw [hfl] at HS
   have hb0 := HBD.out k
   have hb1 := HBD.out (k + 1)
   have hpl := HP.out
   rw [HS.out] at hb1
   have d1 := (HX0.out.trans hx).cell d0
   have d3 := (HX0.out.trans hx).cell d2
   have d5 := (HX0.out.trans hx).cell d4
   have k1 : (0 : Int) ≤ (k : Int) := by omega
   have k2 : (k : Int) < ((permsB b).length : Int) := by omega
   have n1 : (0 : Int) ≤ (n : Int) := by omega
   have n2 : (n : Int) < (l.length : Int) := by omega
   have e1 : (0 : Int) ≤ (e : Int) := by omega
   have e2 : (e : Int) < (E : Int) := by omega
   generalize sumTo (fL b e n g) b k = s at *
   have HX := Lib.hid hx
   by_cases hyg : y = g
   ·rw [if_pos hyg] at hb1 HS
    have q : (y == g) = true := by simpa using hyg
    have q2 : decide (y = g) = true := by simpa using hyg
    have hw1 : IntKind.i64.wrap (s + x) = s + x := IntWalk.i64_in _ (by omega)
    clear hxk hpk hxv hb0 hb1 hpl d0 d2 d4 hx HR3 HA3 hli l3 hll hyn hfl hyg
    go_wp2
    exact ⟨⟨k + 1, by omega, by go_num, by rw [HS.out], HX.out⟩, by simp [intOf]; omega⟩
   ·rw [if_neg hyg] at hb1 HS
    have q : (y == g) = false := beq_eq_false_iff_ne.2 hyg
    have q2 : decide (y = g) = false := by simpa using hyg
    clear hxk hpk hxv hb0 hb1 hpl d0 d2 d4 hx HR3 HA3 hli l3 hll hyn hfl hyg
    go_wp2
    exact ⟨⟨k + 1, by omega, by go_num, by rw [HS.out, Int.add_zero], HX.out⟩, by simp [intOf]; omega⟩
  ·have hke : k = (permsB b).length := by omega
   have x1 : decide ((k : Int) < ((permsB b).length : Int)) = false := by simpa using hlt
   have HR : Hid (sumTo (fL b e n g) b k = leftB b e n g) := by unfold Hid; rw [hke]; exact HALL.out
   have HX := Lib.hid (HX0.out.trans hx)
   clear hke hx
   go_wp2
   go_ret
   exact ⟨by rw [HR.out] <;> rfl, HX.out⟩
end Go.Proofs.YtoohhefegfpipaaGreatDoor

/- The reference's Worst and Ask. -/
namespace Go.Proofs.YtoohhefegfpipaaGreatDoor
open Go.RowKit
set_option maxRecDepth 100000 in
set_option maxHeartbeats 8000000 in
theorem rworst_any (bv v : Value) (b : Book) (e n : Nat) (w : World) (hB : BookB b) (he : (e : Int) < b.editions) (hn : n < b.goods.length) (hb : BookAt w bv b) (hv : ListsAt w v b) :
 Calls Tryz.prog 61 #[bv, v, .int .i64 (e : Int), .int .i64 (n : Int)] w fun r w' => r = .returned (.int .i64 (worstB b e n)) ∧ Ext w w' := by
 have HLA := Lib.hid (fun W1 (h : Ext w W1) => hv.ext h)
 have HBA := Lib.hid (fun W1 (h : Ext w W1) => hb.ext h)
 obtain ⟨ga, gc, ea, ec, rfl, hgl, hel⟩ := hb.open
 obtain ⟨av, mv, rfl, ha, hm⟩ := hv
 obtain ⟨aa, ac, rfl, _, _, _⟩ := ha.open
 obtain ⟨ma, mc, rfl, _, _, _⟩ := hm.open
 simp only [List.length_map, List.length_range] at HLA ⊢
 obtain ⟨W, hW⟩ : ∃ W, W = (w.alloc (bookBox (.slice ga b.goods.length gc) b (.slice ea b.entries.length ec))).alloc (.cells #[.slice aa (permsB b).length ac, .slice ma b.editions.toNat mc] 35) := ⟨_, rfl⟩
 have hx0 : Ext w W := by rw [hW]; exact ((Ext.refl w).alloc _).alloc _
 have HX0 := Lib.hid hx0
 have HF := Lib.hid (fun W1 (h : Ext W W1) => And.intro (BoxAt.ext (show BoxAt W w.heap.size (.slice ga b.goods.length gc) b (.slice ea b.entries.length ec) by rw [hW]; exact (BoxAt.new _ _ _ _).ext ((Ext.refl _).alloc _)) h) (And.intro (h.cell (show W.cell? ⟨w.heap.size + 1, 0, none⟩ = some (.slice aa (permsB b).length ac) by rw [hW]; go_simp)) (h.cell (show W.cell? ⟨w.heap.size + 1, 1, none⟩ = some (.slice ma b.editions.toNat mc) by rw [hW]; go_simp))))
 have HLE := Lib.hid (fun (g : Int) W1 (h : Ext w W1) => rleft_any _ b e n g W1 hB he hn (HLA.out W1 h))
 have HALL := Lib.hid (most_all b e (n : Int))
 have HBM := Lib.hid hB
 clear hb ha hm hB he hn hx0
 go_enter Tryz.func61, Tryz.ntmps61
 go_upto_region 1 with fail
 rw [← hW]
 clear hW
 go_wp2
 go_loopw [9, 10] (fun o j wr => ∃ k : Nat, k ≤ b.goods.length ∧ j = .int .i64 (k : Int) ∧ o = .int .i64 (mostTo b e n k) ∧ Ext W wr) (fun _ j _ => b.goods.length - (intOf j).toNat)
 case atStart => exact ⟨0, Nat.zero_le _, rfl, by simp [mostTo, leftsTo], Ext.refl _⟩
 case round =>
  obtain ⟨k, hk, rfl, rfl, hx⟩ := hrel
  obtain ⟨⟨b0, b1, b2, b3⟩, m0, m1⟩ := HF.out _ hx
  by_cases hlt : k < b.goods.length
  ·have x1 : decide ((k : Int) < (b.goods.length : Int)) = true := by simpa using hlt
   have HMS := Lib.hid (most_succ (b := b) (e := e) (n := (n : Int)) hlt)
   have HLK := Lib.hid (fun W1 (h : Ext w W1) => HLE.out (k : Int) W1 h)
   have HX := Lib.hid hx
   generalize mostTo b e n k = M at *
   generalize leftB b e n (k : Int) = L at *
   clear hx HLE
   go_wp2_with (go_at_call 73; refine (HLK.out _ (HX0.out.trans HX.out)).mono ?_; rintro e w1 ⟨rfl, hx1⟩; have HX1 := Lib.hid hx1; clear hx1)
   exact ⟨⟨k + 1, by omega, by go_num, by rw [HMS.out]; congr 1; split <;> omega, HX.out.trans HX1.out⟩, by simp [intOf]; omega⟩
  ·have x1 : decide ((k : Int) < (b.goods.length : Int)) = false := by simpa using hlt
   have hke : k = b.goods.length := by omega
   have HR : Hid (mostTo b e n k = worstB b e n) := by unfold Hid; rw [hke]; exact HALL.out
   have HX := Lib.hid (HX0.out.trans hx)
   clear hke hx
   go_wp2
   go_ret
   exact ⟨by rw [HR.out] <;> rfl, HX.out⟩
def stepQ (out y : Int × Int × Int) : Int × Int × Int := if decide (y.2.2 < out.2.2) then y else out
def askTo (b : Book) (q : Nat) : Int × Int × Int := ((questions b).take q).foldl stepQ (0, 0, truthsB b + 1)
theorem askTo_succ {b : Book} {e n : Nat} (he : (e : Int) < b.editions) (hn : n < b.goods.length) : askTo b (e * b.goods.length + n + 1) = stepQ (askTo b (e * b.goods.length + n)) ((e : Int), (n : Int), worstB b e n) := by
 unfold askTo
 rw [List.take_add_one, quest_at he hn, List.foldl_append]; rfl
theorem askTo_all {b : Book} (hB : BookB b) {q : Nat} (hq : (questions b).length ≤ q) : askTo b q = askB b := by
 unfold askTo
 rw [List.take_of_length_le hq, ← ask_fold hB]; rfl
set_option maxRecDepth 100000 in
set_option maxHeartbeats 8000000 in
theorem rask_any (bv v : Value) (b : Book) (w : World) (hB : BookB b) (hb : BookAt w bv b) (hv : ListsAt w v b) :
 Calls Tryz.prog 16 #[bv, v] w fun r w' => r = .returned (.tuple #[.int .i64 (askB b).1, .int .i64 (askB b).2.1, .int .i64 (askB b).2.2]) ∧ Ext w w' := by
 have HLA := Lib.hid (fun W1 (h : Ext w W1) => hv.ext h)
 have HBA := Lib.hid (fun W1 (h : Ext w W1) => hb.ext h)
 obtain ⟨ga, gc, ea, ec, rfl, hgl, hel⟩ := hb.open
 obtain ⟨av, mv, rfl, ha, hm⟩ := hv
 obtain ⟨aa, ac, rfl, _, _, _⟩ := ha.open
 obtain ⟨ma, mc, rfl, _, _, _⟩ := hm.open
 simp only [List.length_map, List.length_range] at HLA ⊢
 obtain ⟨W, hW⟩ : ∃ W, W = (w.alloc (bookBox (.slice ga b.goods.length gc) b (.slice ea b.entries.length ec))).alloc (.cells #[.slice aa (permsB b).length ac, .slice ma b.editions.toNat mc] 35) := ⟨_, rfl⟩
 have hx0 : Ext w W := by rw [hW]; exact ((Ext.refl w).alloc _).alloc _
 have HX0 := Lib.hid hx0
 have HF := Lib.hid (fun W1 (h : Ext W W1) => And.intro (BoxAt.ext (show BoxAt W w.heap.size (.slice ga b.goods.length gc) b (.slice ea b.entries.length ec) by rw [hW]; exact (BoxAt.new _ _ _ _).ext ((Ext.refl _).alloc _)) h) (And.intro (h.cell (show W.cell? ⟨w.heap.size + 1, 0, none⟩ = some (.slice aa (permsB b).length ac) by rw [hW]; go_simp)) (h.cell (show W.cell? ⟨w.heap.size + 1, 1, none⟩ = some (.slice ma b.editions.toNat mc) by rw [hW]; go_simp))))
 have HTR := Lib.hid (fun W1 (h : Ext w W1) => rtruths_any _ b W1 hB (HLA.out W1 h))
 have HWO := Lib.hid (fun (e n : Nat) (he : (e : Int) < b.editions) (hn : n < b.goods.length) W1 (h : Ext w W1) => rworst_any _ _ b e n W1 hB he hn (HBA.out W1 h) (HLA.out W1 h))
 obtain ⟨t0, t1⟩ := truths_max hB
 have he1 := hB.e1
 have he3 := hB.e3
 have HQL : Hid ((questions b).length = b.editions.toNat * b.goods.length) := quest_len b
 have HFIN := Lib.hid (fun q hq => askTo_all hB (q := q) hq)
 have hw1 : IntKind.i64.wrap (truthsB b + 1) = truthsB b + 1 := IntWalk.i64_in _ (by omega)
 have HST := Lib.hid (fun (e n : Nat) (he : (e : Int) < b.editions) (hn : n < b.goods.length) => askTo_succ he hn)
 have h00 : Hid (askTo b 0 = (0, 0, truthsB b + 1)) := by unfold Hid askTo; rfl
 clear hb ha hm hB hx0
 go_enter Tryz.func16, Tryz.ntmps16
 go_upto_region 1 with fail
 rw [← hW]
 clear hW
 obtain ⟨⟨b0, b1, b2, b3⟩, m0, m1⟩ := HF.out W (Ext.refl W)
 go_wp2_with (go_at_call 15; refine (HTR.out _ HX0.out).mono ?_; rintro e w1 ⟨rfl, hx1⟩; have HX1 := Lib.hid (show Ext W w1 from hx1); clear hx1 HTR b0 b1 b2 b3 m0 m1)
 clear hw1
 go_loopw [7, 8, 9, 10] (fun p q r j wr => ∃ E : Nat, E ≤ b.editions.toNat ∧ j = .int .i64 (E : Int) ∧ p = .int .i64 (askTo b (E * b.goods.length)).1 ∧ q = .int .i64 (askTo b (E * b.goods.length)).2.1 ∧ r = .int .i64 (askTo b (E * b.goods.length)).2.2 ∧ Ext W wr) (fun _ _ _ j _ => b.editions.toNat - (intOf j).toNat)
 case atStart => exact ⟨0, Nat.zero_le _, rfl, by rw [Nat.zero_mul, h00.out], by rw [Nat.zero_mul, h00.out], by rw [Nat.zero_mul, h00.out], HX1.out⟩
 case round =>
  obtain ⟨E, hE, rfl, rfl, rfl, rfl, hx⟩ := hrel
  obtain ⟨⟨b0, b1, b2, b3⟩, m0, m1⟩ := HF.out _ hx
  by_cases hlt : (E : Int) < b.editions
  ·have x1 : decide ((E : Int) < b.editions) = true := by simpa using hlt
   have HX := Lib.hid hx
   clear hx
   go_wp2
   clear b0 b1 b2 b3 m0 m1
   obtain ⟨wo, rfl⟩ : ∃ wo : World, wo = wr := ⟨_, rfl⟩
   go_loopw [7, 8, 9, 11] (fun p q r j wr => ∃ N : Nat, N ≤ b.goods.length ∧ j = .int .i64 (N : Int) ∧ p = .int .i64 (askTo b (E * b.goods.length + N)).1 ∧ q = .int .i64 (askTo b (E * b.goods.length + N)).2.1 ∧ r = .int .i64 (askTo b (E * b.goods.length + N)).2.2 ∧ Ext W wr) (fun _ _ _ j _ => b.goods.length - (intOf j).toNat)
   case atStart => exact ⟨0, Nat.zero_le _, rfl, rfl, rfl, rfl, HX.out⟩
   case round =>
    obtain ⟨N, hN, rfl, rfl, rfl, rfl, hx⟩ := hrel
    obtain ⟨⟨b0, b1, b2, b3⟩, m0, m1⟩ := HF.out _ hx
    by_cases hlt2 : N < b.goods.length
    ·have x2 : decide ((N : Int) < (b.goods.length : Int)) = true := by simpa using hlt2
     have hEl : (E : Int) < b.editions := hlt
     have HW2 := Lib.hid (HWO.out E N hEl hlt2)
     have HS2 := Lib.hid (HST.out E N hEl hlt2)
     have HX2 := Lib.hid hx
     generalize askTo b (E * b.goods.length + N) = A at *
     generalize worstB b E N = X at *
     obtain ⟨p, q, r⟩ := A
     clear hx hEl
     by_cases hlr : X < r
     ·have x3 : decide (X < r) = true := by simpa using hlr
      have HS3 : Hid (askTo b (E * b.goods.length + N + 1) = ((E : Int), (N : Int), X)) := by unfold Hid; rw [HS2.out]; unfold stepQ; rw [if_pos (by simpa using hlr)]
      clear HS2 hlr
      go_wp2_with (go_at_call 61; refine (HW2.out _ (HX0.out.trans HX2.out)).mono ?_; rintro e w1 ⟨rfl, hx1⟩; have HX3 := Lib.hid (HX2.out.trans hx1); clear hx1)
      exact ⟨⟨N + 1, by omega, by go_num, by rw [← Nat.add_assoc, HS3.out], by rw [← Nat.add_assoc, HS3.out], by rw [← Nat.add_assoc, HS3.out], HX3.out⟩, by simp [intOf]; omega⟩
     ·have x3 : decide (X < r) = false := by simpa using hlr
      have HS3 : Hid (askTo b (E * b.goods.length + N + 1) = (p, q, r)) := by unfold Hid; rw [HS2.out]; unfold stepQ; rw [if_neg (by simpa using hlr)]
      clear HS2 hlr
      go_wp2_with (go_at_call 61; refine (HW2.out _ (HX0.out.trans HX2.out)).mono ?_; rintro e w1 ⟨rfl, hx1⟩; have HX3 := Lib.hid (HX2.out.trans hx1); clear hx1)
      exact ⟨⟨N + 1, by omega, by go_num, by rw [← Nat.add_assoc, HS3.out], by rw [← Nat.add_assoc, HS3.out], by rw [← Nat.add_assoc, HS3.out], HX3.out⟩, by simp [intOf]; omega⟩
    ·have x2 : decide ((N : Int) < (b.goods.length : Int)) = false := by simpa using hlt2
     have hNe : N = b.goods.length := by omega
     have HNE : Hid (E * b.goods.length + N = (E + 1) * b.goods.length) := by unfold Hid; rw [hNe, Nat.succ_mul]
     have HX2 := Lib.hid hx
     clear hx hNe
     go_wp2
     exact ⟨⟨E + 1, by omega, by go_num, by rw [← HNE.out], by rw [← HNE.out], by rw [← HNE.out], HX2.out⟩, by simp [intOf]; omega⟩
  ·have x1 : decide ((E : Int) < b.editions) = false := by simpa using hlt
   have HR : Hid (askTo b (E * b.goods.length) = askB b) := HFIN.out _ (by
    rw [HQL.out]
    have : b.editions.toNat = E := by omega
    rw [this]; exact Nat.le_refl _)
   have HX := Lib.hid (HX0.out.trans hx)
   clear hx
   go_wp2
   refine bodyPost_ret (v := .tuple #[.int .i64 (askTo b (E * b.goods.length)).1, .int .i64 (askTo b (E * b.goods.length)).2.1, .int .i64 (askTo b (E * b.goods.length)).2.2]) (by simp [results, Tryz.results16, go_sem]) rfl ?_
   exact ⟨by rw [HR.out] <;> rfl, HX.out⟩
end Go.Proofs.YtoohhefegfpipaaGreatDoor
