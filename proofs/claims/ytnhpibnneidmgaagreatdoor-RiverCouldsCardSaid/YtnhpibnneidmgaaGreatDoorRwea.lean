/- The reference's Weather. -/
import Derived.Test.YtnhpibnneidmgaaGreatDoorRorg
namespace Go.Proofs.YtnhpibnneidmgaaGreatDoor
open Go.RowKit
set_option maxRecDepth 100000 in
set_option maxHeartbeats 4000000 in
theorem rweather_any (v : Value) (b : Book) (w : World) (hb : BookAt w v b) (hB : BookB b) :
  Calls Tryz.prog 70 #[v] w fun e w' => ∃ wv vs, e = .returned wv ∧ RowsIn (w.heap.size + 1) w' wv vs (b.rivers.map River.grow) ∧ Ext w w' := by
 obtain ⟨ra, rc, rfl, hr⟩ := hb.slice
 obtain ⟨_, _, hv, r1, r2, r3⟩ := hr.open
 cases hv
 have n3 := hB.n2
 have y1 := hB.y1
 have y2 := hB.y2
 have hlen := hB.len
 have HR3 := Lib.hid r3
 obtain ⟨W0, hW0⟩ : ∃ W0, W0 = w.alloc (.cells #[.int .i64 b.years, .slice ra b.rivers.length rc] 24) := ⟨_, rfl⟩
 have HX0 := Lib.hid (show Ext w W0 by rw [hW0]; exact (Ext.refl w).alloc _)
 have HZ0 := Lib.hid (show W0.heap.size = w.heap.size + 1 by rw [hW0]; simp)
 have HS := Lib.hid (fun W (h : Ext W0 W) => (h.cell (by rw [hW0]; go_simp) :
  W.cell? ⟨w.heap.size, 1, none⟩ = some (.slice ra b.rivers.length rc)))
 clear hb hr r3 hB
 go_enter Tryz.func70, Tryz.ntmps70
 go_upto_region 1 with fail
 rw [← hW0]
 clear hW0
 go_wp2
 go_loopw [3, 4] (fun o i wr => ∃ (k : Nat) (vs : List Value), k ≤ b.rivers.length ∧ i = .int .i64 k ∧ RowsIn (w.heap.size + 1) wr o vs ((b.rivers.map River.grow).take k) ∧ Ext W0 wr) (fun _ i _ => b.rivers.length - (intOf i).toNat)
 case atStart => exact ⟨0, [], Nat.zero_le _, rfl, RowsIn.nil _ _, Ext.refl _⟩
 case round =>
  obtain ⟨k, vs, hk, rfl, hrows, hx⟩ := hrel
  have z1 := HS.out _ hx
  by_cases hlt : k < b.rivers.length
  ·have x1 : decide ((k : Int) < (b.rivers.length : Int)) = true := by simpa using hlt
   obtain ⟨rb, ro, gv, R, rfl, hR, d0, d1, d2, hg⟩ := HR3.out k hlt
   have q0 := (HX0.out.trans hx).cell d0
   have hgr := hg.ext (HX0.out.trans hx)
   obtain ⟨ga, gc, rfl, _⟩ := hgr.open
   have hgl := hlen R (List.mem_of_getElem? hR.out)
   have hne : R.grow ≠ [] := fun e => by rw [e] at hgl; simp at hgl; omega
   have i1 : (0 : Int) ≤ (k : Int) := by omega
   have i2 : (k : Int) < (b.rivers.length : Int) := by omega
   have htk : ((b.rivers.map River.grow).take (k + 1)) = ((b.rivers.map River.grow).take k) ++ [R.grow] := by
    rw [List.take_add_one, List.getElem?_map, hR.out]; rfl
   obtain ⟨pa, pc, rfl, _⟩ := RowAt.open (RowAt.of_owns hrows.own)
   have hvl : vs.length = k := by rw [hrows.len, List.length_take, List.length_map]; omega
   have HSZ := Lib.hid (show vs.length + 1 ≤ maxLen ∧ (vs.length + 1) * 24 ≤ 140737488355328 by unfold maxLen; omega)
   have HTK := Lib.hid htk
   have HROW := Lib.hid hrows
   have HNE := Lib.hid hne
   have HG : Hid (RowAt wr (.slice ga R.grow.length gc) R.grow.length (R.grow.flatMap pairC)) := hgr
   have HGL := Lib.hid (show 0 + R.grow.length ≤ maxLen ∧ (0 + R.grow.length) * 16 ≤ 140737488355328 by unfold maxLen; omega)
   have hbz : w.heap.size + 1 ≤ wr.heap.size := by have := hx.size; have := HZ0.out; omega
   clear htk hrows hne hgr hg d0 d1 d2 hgl hvl
   go_wp2_with (at_builtin; first
    | (refine wpList_append_row E_spans rfl _ _ rfl wr.heap.size rfl (World.ownsRow_nil _ _ _ _) rfl HG.out (pairs_len _) (pairs_one _) ?_ HGL.out.1 HGL.out.2 (Nat.le_refl _); intro u w1 hown1 hgrow1 _; have hx1 : Ext wr w1 := Ext.grown (Ext.refl wr) hgrow1 (fun k hk => by cases hk); simp only [Nat.zero_add, List.nil_append] at hown1; have HO1 := Lib.hid hown1; obtain ⟨ua, uc, rfl, _⟩ := RowAt.open (RowAt.of_owns hown1); clear hown1 hgrow1)
    | (refine wpList_push_at E_rows rfl _ _ rfl (w.heap.size + 1) rfl (owns_ext HROW.out.own hx1) rfl (by simp) rfl (by simp [Value.oneCell']) ?_ HSZ.out.1 HSZ.out.2 (Nat.le_trans hbz hx1.size); intro g5 cap5 w5 hown5 hext5 hg5 hloc5; have HW := Lib.hid (And.intro (hext5 _ (hx.trans hx1) (Nat.le_of_eq HZ0.out)) (HROW.out.push hbz hx1 (RowAt.of_owns HO1.out) HNE.out (fun a n c ha hm => by
       have h1 := owns_block HO1.out a.block (by rw [ha]; rfl)
       have h3 : a.block < wr.heap.size := hm
       omega) hown5 hg5 hloc5)); clear hown5 hext5 hg5 hloc5))
   exact ⟨⟨k + 1, _, by omega, by go_num, by rw [HTK.out]; exact HW.out.2, HW.out.1⟩, by simp [intOf]; omega⟩
  ·have x1 : decide ((k : Int) < (b.rivers.length : Int)) = false := by simp; omega
   have hkl : k = b.rivers.length := by omega
   rw [hkl, List.take_of_length_le (by simp)] at hrows
   have HR := Lib.hid hrows
   clear hrows
   go_wp2
   go_ret
   exact ⟨_, vs, rfl, HR.out, HX0.out.trans hx⟩
end Go.Proofs.YtnhpibnneidmgaaGreatDoor
