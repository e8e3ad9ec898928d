/- The reference's Origins. -/
import Derived.Test.YtnhpibnneidmgaaGreatDoorRefa
import Derived.Test.YtnhpibnneidmgaaGreatDoorStateb
namespace Go.Proofs.YtnhpibnneidmgaaGreatDoor
open Go.RowKit
theorem org_len {b : Book} {n : Nat} (hB : BookB b) (n1 : 1 ≤ n) : (originsOf b n).length ≤ 1000 := by
 rw [originsOf_length]
 have := hB.n2
 have := hB.y2
 have := Nat.mul_le_mul (show b.rivers.length ≤ 100 by omega) (show b.years.toNat + 1 - n ≤ 10 by omega)
 omega
theorem take_pairs {L : List (Int × Int)} {q : Nat} {x : Int × Int} (h : L[q]? = some x) : (L.take (q + 1)).flatMap pairC = (L.take q).flatMap pairC ++ pairC x := by
 rw [List.take_add_one, h]; simp
set_option maxRecDepth 100000 in
set_option maxHeartbeats 4000000 in
theorem rorigins_any (v : Value) (b : Book) (n : Nat) (w : World) (hb : BookAt w v b) (hB : BookB b) (n1 : 1 ≤ n) (n2 : n ≤ 7) :
  Calls Tryz.prog 76 #[v, .int .i64 n] w fun e w' => ∃ u, e = .returned u ∧ PairsAt w' u (originsOf b n) ∧ Ext w w' := by
 obtain ⟨ra, rc, rfl, _⟩ := hb.slice
 have y1 := hB.y1
 have y2 := hB.y2
 have n3 := hB.n2
 obtain ⟨y, hyy⟩ : ∃ y : Nat, b.years = y := ⟨b.years.toNat, by omega⟩
 obtain ⟨m, hm⟩ : ∃ m, m = b.years.toNat + 1 - n := ⟨_, rfl⟩
 have hmy : m = y + 1 - n := by rw [hm, hyy]; simp
 have HLEN := Lib.hid (show (originsOf b n).length = b.rivers.length * m by rw [originsOf_length, hm])
 have HAT := Lib.hid (show ∀ r j : Nat, r < b.rivers.length → j < m → (originsOf b n)[r * m + j]? = some ((r : Int), (n : Int) - 1 + (j : Int)) from fun r j hr hj => by
  subst hm
  rw [originsOf_at hr hj]
  exact congrArg (fun x => some ((r : Int), x)) (by omega))
 have HLE := Lib.hid (org_len (n := n) hB n1)
 generalize originsOf b n = L at HLEN HAT HLE ⊢
 rw [hyy] at hb y1 y2 ⊢
 obtain ⟨W0, hW0⟩ : ∃ W0, W0 = w.alloc (.cells #[.int .i64 (y : Int), .slice ra b.rivers.length rc] 24) := ⟨_, rfl⟩
 have HX0 := Lib.hid (show Ext w W0 by rw [hW0]; exact (Ext.refl w).alloc _)
 have HZ0 := Lib.hid (show W0.heap.size = w.heap.size + 1 by rw [hW0]; simp)
 have HS := Lib.hid (fun W (h : Ext W0 W) => (⟨h.cell (by rw [hW0]; go_simp), h.cell (by rw [hW0]; go_simp)⟩ :
  W.cell? ⟨w.heap.size, 0, none⟩ = some (.int .i64 (y : Int)) ∧ W.cell? ⟨w.heap.size, 1, none⟩ = some (.slice ra b.rivers.length rc)))
 clear hb hm hyy hB
 go_enter Tryz.func76, Tryz.ntmps76
 go_upto_region 1 with fail
 rw [← hW0]
 clear hW0
 go_wp2
 go_loopw [5, 6] (fun o i wr => ∃ k q : Nat, k ≤ b.rivers.length ∧ i = .int .i64 k ∧ Hid (q = k * m) ∧ wr.ownsRow (w.heap.size + 1) 50 2 o q ((L.take q).flatMap pairC) ∧ Ext W0 wr) (fun _ i _ => b.rivers.length - (intOf i).toNat)
 case atStart => exact ⟨0, 0, Nat.zero_le _, rfl, by simp [Hid], World.ownsRow_nil _ _ _ _, Ext.refl _⟩
 case round =>
  obtain ⟨k, q, hk, rfl, hq, hown, hx⟩ := hrel
  by_cases hlt : k < b.rivers.length
  ·have x1 : decide ((k : Int) < (b.rivers.length : Int)) = true := by simpa using hlt
   obtain ⟨z0, z1⟩ := HS.out _ hx
   have HQ := Lib.hid (show ∀ j : Nat, j < m → L[q + j]? = some ((k : Int), (n : Int) - 1 + (j : Int)) from fun j hj => by rw [hq.out]; exact HAT.out k j hlt hj)
   have HQ1 := Lib.hid (show q + m = (k + 1) * m by rw [hq.out, Nat.succ_mul])
   go_wp2
   go_loopw [5, 7] (fun o i wq => ∃ j : Nat, j ≤ m ∧ i = .int .i64 ((n : Int) - 1 + (j : Int)) ∧ wq.ownsRow (w.heap.size + 1) 50 2 o (q + j) ((L.take (q + j)).flatMap pairC) ∧ Ext W0 wq) (fun _ i _ => y + 8 - (intOf i).toNat)
   case atStart => exact ⟨0, Nat.zero_le _, by go_num, hown, hx⟩
   case round =>
    obtain ⟨j, hj, rfl, hown, hx⟩ := hrel
    obtain ⟨z0, z1⟩ := HS.out _ hx
    have hbz : w.heap.size + 1 ≤ wr.heap.size := by have := hx.size; have := HZ0.out; omega
    by_cases hjl : j < m
    ·have x2 : decide ((n : Int) - 1 + (j : Int) < (y : Int)) = true := by simp; omega
     have hat := HQ.out j hjl
     have hle : q + j < 1000 := by have := (List.getElem?_eq_some_iff.1 hat).1; have := HLE.out; omega
     have HSZ := Lib.hid (show q + j + 1 ≤ maxLen ∧ (q + j + 1) * 16 ≤ 140737488355328 by unfold maxLen; omega)
     have HTK := Lib.hid (take_pairs hat)
     obtain ⟨_, _, rfl, _⟩ := RowAt.open (RowAt.of_owns hown)
     have HOWN := Lib.hid hown
     have HX := Lib.hid hx
     have HZ := Lib.hid (Nat.le_of_eq HZ0.out)
     clear hown hx hat
     go_wp2_with (at_builtin; refine wpList_push_at E_pairs rfl _ _ rfl (w.heap.size + 1) rfl HOWN.out rfl (by simp) rfl (by simp [Value.oneCell']) ?_ HSZ.out.1 HSZ.out.2 hbz; intro g cap w5 hown5 hext5 hg5 hloc5; have HW := Lib.hid (And.intro hown5 (hext5 _ HX.out HZ.out)); clear hown5 hext5 hg5 hloc5)
     refine ⟨⟨j + 1, by omega, by go_num, ?_, HW.out.2⟩, by simp [intOf]; omega⟩
     rw [← Nat.add_assoc, HTK.out]; exact HW.out.1
    ·have x2 : decide ((n : Int) - 1 + (j : Int) < (y : Int)) = false := by simp; omega
     have hjm : j = m := by omega
     subst hjm
     have HOWN := Lib.hid hown
     clear hown
     go_wp2
     exact ⟨⟨k + 1, q + j, by omega, by go_num, HQ1.out, HOWN.out, hx⟩, by simp [intOf]; omega⟩
  ·have x1 : decide ((k : Int) < (b.rivers.length : Int)) = false := by simp; omega
   obtain ⟨z0, z1⟩ := HS.out _ hx
   have hkl : k = b.rivers.length := by omega
   have hql : q = L.length := by rw [HLEN.out, hq.out, hkl]
   rw [hql, List.take_of_length_le (Nat.le_refl _)] at hown
   have HR := Lib.hid (RowAt.of_owns hown)
   clear hown
   go_wp2
   go_ret
   exact ⟨_, rfl, HR.out, HX0.out.trans hx⟩
end Go.Proofs.YtnhpibnneidmgaaGreatDoor
