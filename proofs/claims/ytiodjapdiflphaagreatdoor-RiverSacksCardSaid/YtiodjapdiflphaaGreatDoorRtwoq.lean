/- The reference's Origins. -/
import Derived.Test.YtiodjapdiflphaaGreatDoorRefa
import Derived.Test.YtiodjapdiflphaaGreatDoorStateb
import Derived.Test.YtiodjapdiflphaaGreatDoorWith
namespace Go.Proofs.YtiodjapdiflphaaGreatDoor
open Go.RowKit
theorem org_len {b : Book} {n : Nat} (hB : BookB b) (n1 : 1 ≤ n) : (originsOf b n).length ≤ 1000 := by
 rw [originsOf_length]
 have := hB.n2
 have := hB.y2
 have := Nat.mul_le_mul (show b.rivers.length ≤ 100 by omega) (show b.years.toNat + 1 - n ≤ 10 by omega)
 omega
theorem take_pairs {L : List (Int × Int)} {q : Nat} {x : Int × Int} (h : L[q]? = some x) : (L.take (q + 1)).flatMap pairC = (L.take q).flatMap pairC ++ pairC x := by
 rw [List.take_add_one, h]; simp
set_option maxRecDepth 100000 in
set_option maxHeartbeats 4000000 in
theorem rorigins_new (v : Value) (b : Book) (n : Nat) (w : World) (hb : BookAt w v b) (hB : BookB b) (n1 : 1 ≤ n) (n2 : n ≤ 7) :
  Calls Tryz.prog 76 #[v, .int .i64 n] w fun e w' => ∃ u, e = .returned u ∧ PairsAt w' u (originsOf b n) ∧ Ext w w' ∧ ∀ M : Nat → Prop, (∀ i, M i → i < w.heap.size) → OffV M u := by
 obtain ⟨ra, rc, rfl, _⟩ := hb.slice
 have y1 := hB.y1
 have y2 := hB.y2
 have n3 := hB.n2
 obtain ⟨y, hyy⟩ : ∃ y : Nat, b.years = y := ⟨b.years.toNat, by omega⟩
 obtain ⟨m, hm⟩ : ∃ m, m = b.years.toNat + 1 - n := ⟨_, rfl⟩
 have hmy : m = y + 1 - n := by rw [hm, hyy]; simp
 have HLEN := Lib.hid (show (originsOf b n).length = b.rivers.length * m by rw [originsOf_length, hm])
 have HAT := Lib.hid (show ∀ r j : Nat, r < b.rivers.length → j < m → (originsOf b n)[r * m + j]? = some ((r : Int), (n : Int) - 1 + (j : Int)) from fun r j hr hj => by
  subst hm
  rw [originsOf_at hr hj]
  exact congrArg (fun x => some ((r : Int), x)) (by omega))
 have HLE := Lib.hid (org_len (n := n) hB n1)
 generalize originsOf b n = L at HLEN HAT HLE ⊢
 rw [hyy] at hb y1 y2 ⊢
 obtain ⟨W0, hW0⟩ : ∃ W0, W0 = w.alloc (.cells #[.int .i64 (y : Int), .slice ra b.rivers.length rc] 24) := ⟨_, rfl⟩
 have HX0 := Lib.hid (show Ext w W0 by rw [hW0]; exact (Ext.refl w).alloc _)
 have HZ0 := Lib.hid (show W0.heap.size = w.heap.size + 1 by rw [hW0]; simp)
 have HS := Lib.hid (fun W (h : Ext W0 W) => (⟨h.cell (by rw [hW0]; go_simp), h.cell (by rw [hW0]; go_simp)⟩ :
  W.cell? ⟨w.heap.size, 0, none⟩ = some (.int .i64 (y : Int)) ∧ W.cell? ⟨w.heap.size, 1, none⟩ = some (.slice ra b.rivers.length rc)))
 clear hb hm hyy hB
 go_enter Tryz.func76, Tryz.ntmps76
 go_upto_region 1 with fail
 rw [← hW0]
 clear hW0
 go_wp2
 go_loopw [5, 6] (fun o i wr => ∃ k q : Nat, k ≤ b.rivers.length ∧ i = .int .i64 k ∧ Hid (q = k * m) ∧ wr.ownsRow (w.heap.size + 1) 84 2 o q ((L.take q).flatMap pairC) ∧ Ext W0 wr) (fun _ i _ => b.rivers.length - (intOf i).toNat)
 case atStart => exact ⟨0, 0, Nat.zero_le _, rfl, by simp [Hid], World.ownsRow_nil _ _ _ _, Ext.refl _⟩
 case round =>
  obtain ⟨k, q, hk, rfl, hq, hown, hx⟩ := hrel
  by_cases hlt : k < b.rivers.length
  ·have x1 : decide ((k : Int) < (b.rivers.length : Int)) = true := by simpa using hlt
   obtain ⟨z0, z1⟩ := HS.out _ hx
   have HQ := Lib.hid (show ∀ j : Nat, j < m → L[q + j]? = some ((k : Int), (n : Int) - 1 + (j : Int)) from fun j hj => by rw [hq.out]; exact HAT.out k j hlt hj)
   have HQ1 := Lib.hid (show q + m = (k + 1) * m by rw [hq.out, Nat.succ_mul])
   go_wp2
   go_loopw [5, 7] (fun o i wq => ∃ j : Nat, j ≤ m ∧ i = .int .i64 ((n : Int) - 1 + (j : Int)) ∧ wq.ownsRow (w.heap.size + 1) 84 2 o (q + j) ((L.take (q + j)).flatMap pairC) ∧ Ext W0 wq) (fun _ i _ => y + 8 - (intOf i).toNat)
   case atStart => exact ⟨0, Nat.zero_le _, by go_num, hown, hx⟩
   case round =>
    obtain ⟨j, hj, rfl, hown, hx⟩ := hrel
    obtain ⟨z0, z1⟩ := HS.out _ hx
    have hbz : w.heap.size + 1 ≤ wr.heap.size := by have := hx.size; have := HZ0.out; omega
    by_cases hjl : j < m
    ·have x2 : decide ((n : Int) - 1 + (j : Int) < (y : Int)) = true := by simp; omega
     have hat := HQ.out j hjl
     have hle : q + j < 1000 := by have := (List.getElem?_eq_some_iff.1 hat).1; have := HLE.out; omega
     have HSZ := Lib.hid (show q + j + 1 ≤ maxLen ∧ (q + j + 1) * 16 ≤ 140737488355328 by unfold maxLen; omega)
     have HTK := Lib.hid (take_pairs hat)
     obtain ⟨_, _, rfl, _⟩ := RowAt.open (RowAt.of_owns hown)
     have HOWN := Lib.hid hown
     have HX := Lib.hid hx
     have HZ := Lib.hid (Nat.le_of_eq HZ0.out)
     clear hown hx hat
     go_wp2_with (at_builtin; refine wpList_push_at E_pairs rfl _ _ rfl (w.heap.size + 1) rfl HOWN.out rfl (by simp) rfl (by simp [Value.oneCell']) ?_ HSZ.out.1 HSZ.out.2 hbz; intro g cap w5 hown5 hext5 hg5 hloc5; have HW := Lib.hid (And.intro hown5 (hext5 _ HX.out HZ.out)); clear hown5 hext5 hg5 hloc5)
     refine ⟨⟨j + 1, by omega, by go_num, ?_, HW.out.2⟩, by simp [intOf]; omega⟩
     rw [← Nat.add_assoc, HTK.out]; exact HW.out.1
    ·have x2 : decide ((n : Int) - 1 + (j : Int) < (y : Int)) = false := by simp; omega
     have hjm : j = m := by omega
     subst hjm
     have HOWN := Lib.hid hown
     clear hown
     go_wp2
     exact ⟨⟨k + 1, q + j, by omega, by go_num, HQ1.out, HOWN.out, hx⟩, by simp [intOf]; omega⟩
  ·have x1 : decide ((k : Int) < (b.rivers.length : Int)) = false := by simp; omega
   obtain ⟨z0, z1⟩ := HS.out _ hx
   have hkl : k = b.rivers.length := by omega
   have hql : q = L.length := by rw [HLEN.out, hq.out, hkl]
   rw [hql, List.take_of_length_le (Nat.le_refl _)] at hown
   have HR := Lib.hid (RowAt.of_owns hown)
   have HOF : Hid (∀ M : Nat → Prop, (∀ i, M i → i < w.heap.size) → OffV M u5) := fun M hM a n c hv h => by
    have h1 := owns_block hown a.block (by
     obtain ⟨_, ⟨e, _⟩ | ⟨g', cap', cur, e, _⟩⟩ := hown
     ·rw [hv] at e; cases e
     ·rw [hv] at e; cases e; rw [hv]; rfl)
    have := hM _ h
    omega
   clear hown
   go_wp2
   go_ret
   exact ⟨_, rfl, HR.out, HX0.out.trans hx, HOF.out⟩
end Go.Proofs.YtiodjapdiflphaaGreatDoor

/- The reference's Weather. -/
namespace Go.Proofs.YtiodjapdiflphaaGreatDoor
open Go.RowKit
set_option maxRecDepth 100000 in
set_option maxHeartbeats 4000000 in
theorem rweather_any (v : Value) (b : Book) (w : World) (hb : BookAt w v b) (hB : BookB b) :
  Calls Tryz.prog 42 #[v] w fun e w' => ∃ wv vs, e = .returned wv ∧ RowsIn (w.heap.size + 1) w' wv vs (b.rivers.map River.grow) ∧ Ext w w' := by
 obtain ⟨ra, rc, rfl, hr⟩ := hb.slice
 obtain ⟨_, _, hv, r1, r2, r3⟩ := hr.open
 cases hv
 have n3 := hB.n2
 have y1 := hB.y1
 have y2 := hB.y2
 have hlen := hB.len
 have HR3 := Lib.hid r3
 obtain ⟨W0, hW0⟩ : ∃ W0, W0 = w.alloc (.cells #[.int .i64 b.years, .slice ra b.rivers.length rc] 24) := ⟨_, rfl⟩
 have HX0 := Lib.hid (show Ext w W0 by rw [hW0]; exact (Ext.refl w).alloc _)
 have HZ0 := Lib.hid (show W0.heap.size = w.heap.size + 1 by rw [hW0]; simp)
 have HS := Lib.hid (fun W (h : Ext W0 W) => (h.cell (by rw [hW0]; go_simp) :
  W.cell? ⟨w.heap.size, 1, none⟩ = some (.slice ra b.rivers.length rc)))
 clear hb hr r3 hB
 go_enter Tryz.func42, Tryz.ntmps42
 go_upto_region 1 with fail
 rw [← hW0]
 clear hW0
 go_wp2
 go_loopw [3, 4] (fun o i wr => ∃ (k : Nat) (vs : List Value), k ≤ b.rivers.length ∧ i = .int .i64 k ∧ RowsIn (w.heap.size + 1) wr o vs ((b.rivers.map River.grow).take k) ∧ Ext W0 wr) (fun _ i _ => b.rivers.length - (intOf i).toNat)
 case atStart => exact ⟨0, [], Nat.zero_le _, rfl, RowsIn.nil _ _, Ext.refl _⟩
 case round =>
  obtain ⟨k, vs, hk, rfl, hrows, hx⟩ := hrel
  have z1 := HS.out _ hx
  by_cases hlt : k < b.rivers.length
  ·have x1 : decide ((k : Int) < (b.rivers.length : Int)) = true := by simpa using hlt
   obtain ⟨rb, ro, gv, R, rfl, hR, d0, d1, d2, hg⟩ := HR3.out k hlt
   have q0 := (HX0.out.trans hx).cell d0
   have hgr := hg.ext (HX0.out.trans hx)
   obtain ⟨ga, gc, rfl, _⟩ := hgr.open
   have hgl := hlen R (List.mem_of_getElem? hR.out)
   have hne : R.grow ≠ [] := fun e => by rw [e] at hgl; simp at hgl; omega
   have i1 : (0 : Int) ≤ (k : Int) := by omega
   have i2 : (k : Int) < (b.rivers.length : Int) := by omega
   have htk : ((b.rivers.map River.grow).take (k + 1)) = ((b.rivers.map River.grow).take k) ++ [R.grow] := by
    rw [List.take_add_one, List.getElem?_map, hR.out]; rfl
   obtain ⟨pa, pc, rfl, _⟩ := RowAt.open (RowAt.of_owns hrows.own)
   have hvl : vs.length = k := by rw [hrows.len, List.length_take, List.length_map]; omega
   have HSZ := Lib.hid (show vs.length + 1 ≤ maxLen ∧ (vs.length + 1) * 24 ≤ 140737488355328 by unfold maxLen; omega)
   have HTK := Lib.hid htk
   have HROW := Lib.hid hrows
   have HNE := Lib.hid hne
   have HG : Hid (RowAt wr (.slice ga R.grow.length gc) R.grow.length (R.grow.flatMap pairC)) := hgr
   have HGL := Lib.hid (show 0 + R.grow.length ≤ maxLen ∧ (0 + R.grow.length) * 16 ≤ 140737488355328 by unfold maxLen; omega)
   have hbz : w.heap.size + 1 ≤ wr.heap.size := by have := hx.size; have := HZ0.out; omega
   clear htk hrows hne hgr hg d0 d1 d2 hgl hvl
   go_wp2_with (at_builtin; first
    | (refine wpList_append_row E_spans rfl _ _ rfl wr.heap.size rfl (World.ownsRow_nil _ _ _ _) rfl HG.out (pairs_len _) (pairs_one _) ?_ HGL.out.1 HGL.out.2 (Nat.le_refl _); intro u w1 hown1 hgrow1 _; have hx1 : Ext wr w1 := Ext.grown (Ext.refl wr) hgrow1 (fun k hk => by cases hk); simp only [Nat.zero_add, List.nil_append] at hown1; have HO1 := Lib.hid hown1; obtain ⟨ua, uc, rfl, _⟩ := RowAt.open (RowAt.of_owns hown1); clear hown1 hgrow1)
    | (refine wpList_push_at E_rows rfl _ _ rfl (w.heap.size + 1) rfl (owns_ext HROW.out.own hx1) rfl (by simp) rfl (by simp [Value.oneCell']) ?_ HSZ.out.1 HSZ.out.2 (Nat.le_trans hbz hx1.size); intro g5 cap5 w5 hown5 hext5 hg5 hloc5; have HW := Lib.hid (And.intro (hext5 _ (hx.trans hx1) (Nat.le_of_eq HZ0.out)) (HROW.out.push hbz hx1 (RowAt.of_owns HO1.out) HNE.out (fun a n c ha hm => by
       have h1 := owns_block HO1.out a.block (by rw [ha]; rfl)
       have h3 : a.block < wr.heap.size := hm
       omega) hown5 hg5 hloc5)); clear hown5 hext5 hg5 hloc5))
   exact ⟨⟨k + 1, _, by omega, by go_num, by rw [HTK.out]; exact HW.out.2, HW.out.1⟩, by simp [intOf]; omega⟩
  ·have x1 : decide ((k : Int) < (b.rivers.length : Int)) = false := by simp; omega
   have hkl : k = b.rivers.length := by omega
   rw [hkl, List.take_of_length_le (by simp)] at hrows
   have HR := Lib.hid hrows
   clear hrows
   go_wp2
   go_ret
   exact ⟨_, vs, rfl, HR.out, HX0.out.trans hx⟩
end Go.Proofs.YtiodjapdiflphaaGreatDoor

/- The reference's narrow. -/
namespace Go.Proofs.YtiodjapdiflphaaGreatDoor
open Go.RowKit
theorem row_cell {w : World} {base : Nat} {e : TypeId} {g cap n r : Nat} {vs : List Value} {u : Value} (h : w.ownsRow base e 1 (.slice (some ⟨g, 0, none⟩) n cap) n vs) (hu : vs[r]? = some u) : w.cell? ⟨g, r, none⟩ = some u := by
 obtain ⟨a, c, hv, _, _, h3⟩ := RowAt.open (RowAt.of_owns h)
 obtain ⟨b, o, ha, hc⟩ := h3 r u hu
 cases hv
 cases ha
 simpa using hc
def NarPost (off : Int) (rings : List Int) (p : Nat) (rows : List (List (Int × Int))) (r : Nat) (M : Nat → Prop) (w : World) (e : Ending) (w' : World) : Prop :=
 Ext w w' ∧ match narrowL off rings p (rows.getD r []) with
  | some row => ∃ oa oc, e = .returned (.tuple #[.slice oa rows.length oc, .bool true]) ∧ SpansOff M w' (.slice oa rows.length oc) (rows.set r row)
  | none => e = .returned (.tuple #[.slice none 0 0, .bool false])
set_option maxRecDepth 100000 in
set_option maxHeartbeats 8000000 in
theorem rnarrow_any (bv wv sv : Value) (b : Book) (rows : List (List (Int × Int))) (s : Shell) (r y : Nat) (R : River) (M : Nat → Prop) (w : World) (hb : BookAt w bv b) (hB : BookB b) (hW : SpansOff M w wv rows) (hrl : rows.length = b.rivers.length) (hrow : ∀ l, l ∈ rows → (l.length : Int) = b.years)
  (hs : ShellAt w sv s) (hS : ShellB s) (h1 : b.rivers[r]? = some R) (h2 : (y : Int) < b.years) (h3 : s.rings.length ≤ y + 1) (hM : ∀ i, M i → i < w.heap.size) :
  Calls Tryz.prog 77 #[bv, wv, sv, .agg #[.int .i64 (r : Int), .int .i64 (y : Int)]] w (NarPost (R.vary + s.off) s.rings (y + 1 - s.rings.length) rows r M w) := by
 obtain ⟨ra, rc, rfl, hr⟩ := hb.slice
 obtain ⟨_, _, hv, r1, r2, r3⟩ := hr.open
 cases hv
 have hrlt : r < b.rivers.length := (List.getElem?_eq_some_iff.1 h1).1
 obtain ⟨rb, ro, grv, R', rfl, hR, d0, d1, d2, hg⟩ := r3 r hrlt
 have hRR : R' = R := by have := hR.out; rw [h1] at this; cases this; rfl
 subst hRR
 obtain ⟨gv, rfl, hgi⟩ := hs
 obtain ⟨ga, gc, rfl, g1, g2, g3⟩ := hgi.open
 obtain ⟨vs, v1, v2, v3, v4⟩ := hW
 obtain ⟨wa, wk, rfl, w1, w2, w3⟩ := RowAt.open v2
 have hrw : r < rows.length := by omega
 obtain ⟨row0, hrow0⟩ : ∃ row0, rows[r]? = some row0 := ⟨rows[r], by simp [hrw]⟩
 have hvr : r < vs.length := by omega
 obtain ⟨u0, hu0⟩ : ∃ u0, vs[r]? = some u0 := ⟨vs[r], by simp [hvr]⟩
 have hur := v4 r u0 row0 hu0 hrow0
 obtain ⟨ua, uc, rfl, u1, u2, _⟩ := hur.1.open
 obtain ⟨wb, wo, rfl, hcu⟩ := w3 r _ hu0
 have hlen0 : (row0.length : Int) = b.years := hrow row0 (List.mem_of_getElem? hrow0)
 have y1 := hB.y1
 have y2 := hB.y2
 have n3 := hB.n2
 have hvy := hB.vary R' (List.mem_of_getElem? hR.out)
 have hof := hS.off
 have hrl1 := hS.n1
 have hrl2 := hS.n2
 obtain ⟨W0, hW0⟩ : ∃ W0, W0 = (((w.alloc (.cells #[.int .i64 b.years, .slice (some ⟨rb, ro, none⟩) b.rivers.length rc] 24)).alloc (.cells #[.slice ga s.rings.length gc, .int .i64 s.off] 65)).alloc (.cells #[.int .i64 (r : Int), .int .i64 (y : Int)] 84)) := ⟨_, rfl⟩
 have hxB : Ext w W0 := by rw [hW0]; exact (((Ext.refl w).alloc _).alloc _).alloc _
 have hzB : W0.heap.size = w.heap.size + 3 := by rw [hW0]; simp
 have HS := Lib.hid (fun W (h : Ext W0 W) => (⟨h.cell (by rw [hW0]; go_simp), h.cell (by rw [hW0]; go_simp), h.cell (by rw [hW0]; go_simp), h.cell (by rw [hW0]; go_simp), h.cell (by rw [hW0]; go_simp), (hxB.trans h).cell d1⟩ : W.cell? ⟨w.heap.size, 1, none⟩ = some (.slice (some ⟨rb, ro, none⟩) b.rivers.length rc) ∧ W.cell? ⟨w.heap.size + 1, 0, none⟩ = some (.slice ga s.rings.length gc) ∧ W.cell? ⟨w.heap.size + 1, 1, none⟩ = some (.int .i64 s.off) ∧ W.cell? ⟨w.heap.size + 2, 0, none⟩ = some (.int .i64 (r : Int)) ∧ W.cell? ⟨w.heap.size + 2, 1, none⟩ = some (.int .i64 (y : Int)) ∧ W.cell? ⟨rb, ro + r * 3 + 1, none⟩ = some (.int .i64 R'.vary)))
 have HD2 := Lib.hid (fun W (h : Ext W0 W) => (⟨(HS.out W h).2.2.2.1, (hxB.trans h).cell hcu⟩ : W.cell? ⟨w.heap.size + 2, 0, none⟩ = some (.int .i64 (r : Int)) ∧ W.cell? ⟨wb, wo + r, none⟩ = some (.slice ua row0.length uc)))
 have HU := Lib.hid (fun W (h : Ext W0 W) => RowAt.ext hur.1 (hxB.trans h))
 have HV2 := Lib.hid (RowAt.ext v2 hxB)
 have HVL := Lib.hid (show vs.length = rows.length * 1 by omega)
 have HV1 := Lib.hid (SpansOff.one v1 v4)
 have HVS := Lib.hid (And.intro v1 v4)
 have HSZ := Lib.hid (show 0 + row0.length ≤ maxLen ∧ (0 + row0.length) * 16 ≤ 140737488355328 by unfold maxLen; omega)
 have HSZW := Lib.hid (show 0 + rows.length ≤ maxLen ∧ (0 + rows.length) * 24 ≤ 140737488355328 by unfold maxLen; omega)
 obtain ⟨N, hN⟩ : ∃ N, row0.length = N + 1 := ⟨row0.length - 1, by omega⟩
 obtain ⟨nn, hnn⟩ : ∃ nn, rows.length = nn + 1 := ⟨rows.length - 1, by omega⟩
 have HVR := Lib.hid hu0
 have HR0 := Lib.hid hrow0
 have HXB := Lib.hid hxB
 have HZB := Lib.hid hzB
 have HG3 := Lib.hid (fun k (hk : k < s.rings.length) => g3 k hk)
 have HRW := Lib.hid hrw
 have j1 : (0 : Int) ≤ (r : Int) := by omega
 have j2 : (r : Int) < (rows.length : Int) := by omega
 have j3 : (r : Int) < (b.rivers.length : Int) := by omega
 have HGET := Lib.hid (show rows.getD r [] = row0 by rw [List.getD_eq_getElem?_getD, hrow0]; rfl)
 have HN := Lib.hid hN
 have HNN := Lib.hid hnn
 have HRL := Lib.hid hrl
 have HL0 := Lib.hid hlen0
 clear hb hr r3 d0 d1 d2 hg hgi g3 v1 v2 v3 v4 w3 hu0 hrow0 hur hcu hvr hxB hzB hrow hrw hN hnn hrl hlen0
 go_enter Tryz.func77, Tryz.ntmps77
 go_upto_region 1 with fail
 rw [← hW0]
 clear hW0
 go_upto_region 2 with (at_builtin; refine wpList_append_row E_rows rfl _ _ rfl W0.heap.size rfl (World.ownsRow_nil _ _ _ _) rfl HV2.out HVL.out HV1.out ?_ HSZW.out.1 HSZW.out.2 (Nat.le_refl _); intro u1 w1 hown1 hgrow1 _)
 have hx1 : Ext W0 w1 := Ext.grown (Ext.refl W0) hgrow1 (fun k hk => by cases hk)
 simp only [Nat.zero_add, List.nil_append] at hown1
 have hown1' := hown1
 rw [HNN.out] at hown1'
 obtain ⟨gw, cw, hu1⟩ := owns_succ hown1'
 rw [← HNN.out] at hu1
 subst hu1
 have HOWN1 := Lib.hid hown1
 clear hown1 hown1' hgrow1
 refine wp_region_noPanic ?_
 refine wp_region_any (by kernel_rfl) (wpAny_of_till (z := 10) (S := (fun W => W.cell? ⟨w.heap.size + 2, 0, none⟩ = some (.int .i64 (r : Int)) ∧ W.cell? ⟨wb, wo + r, none⟩ = some (.slice ua row0.length uc))) _ _ _ _ ?_)
 change wpTill _ _ _ _ _ _ _ _ _ w1.drew
 have hS0 := HD2.out _ (hx1.drew)
 refine till_at (i := 0) (d := some 17) (v := ?_) (by kernel_rfl) (by kernel_rfl) (by kernel_rfl) (by kernel_rfl) (by kernel_rfl) (fun _ _ _ h => h) (fun o ho => ?_) hS0 ?_
 rotate_left
 ·simp only [zA, zB, zD] at ho
  subst ho
  refine Or.inl ⟨by rfl, fun w' hSw => ?_⟩
  obtain ⟨hSw0, hSw1⟩ := hSw
  go_simp
  try with_reducible rfl
 try simp only [Act.put, yA, yB, yC]
 refine till_at (i := 1) (d := some 18) (v := ?_) (by kernel_rfl) (by kernel_rfl) (by kernel_rfl) (by kernel_rfl) (by kernel_rfl) (fun _ _ _ h => h) (fun o ho => ?_) hS0 ?_
 rotate_left
 ·simp only [zA, zB, zC, zD] at ho
  subst ho
  refine Or.inl ⟨by rfl, fun w' hSw => ?_⟩
  obtain ⟨hSw0, hSw1⟩ := hSw
  go_simp
  try with_reducible rfl
 try simp only [Act.put, yA, yB, yC]
 refine till_at (i := 2) (d := some 19) (v := ?_) (by kernel_rfl) (by kernel_rfl) (by kernel_rfl) (by kernel_rfl) (by kernel_rfl) (fun _ _ _ h => h) (fun o ho => ?_) hS0 ?_
 rotate_left
 ·simp only [zA, zB, zC, zD] at ho
  subst ho
  refine Or.inl ⟨by rfl, fun w' hSw => ?_⟩
  obtain ⟨hSw0, hSw1⟩ := hSw
  go_simp
  try with_reducible rfl
 try simp only [Act.put, yA, yB, yC]
 refine till_at (i := 3) (d := some 20) (v := ?_) (by kernel_rfl) (by kernel_rfl) (by kernel_rfl) (by kernel_rfl) (by kernel_rfl) (fun _ _ _ h => h) (fun o ho => ?_) hS0 ?_
 rotate_left
 ·simp only [zA, zB, zC, zD] at ho
  subst ho
  refine Or.inl ⟨by rfl, fun w' hSw => ?_⟩
  obtain ⟨hSw0, hSw1⟩ := hSw
  go_simp
  try with_reducible rfl
 try simp only [Act.put, yA, yB, yC]
 refine till_at (i := 4) (d := some 21) (v := ?_) (by kernel_rfl) (by kernel_rfl) (by kernel_rfl) (by kernel_rfl) (by kernel_rfl) (fun _ _ _ h => h) (fun o ho => ?_) hS0 ?_
 rotate_left
 ·simp only [zA, zB, zC, zD] at ho
  subst ho
  refine Or.inl ⟨by rfl, fun w' hSw => ?_⟩
  obtain ⟨hSw0, hSw1⟩ := hSw
  go_simp
  try with_reducible rfl
 try simp only [Act.put, yA, yB, yC]
 refine till_at (i := 5) (d := some 22) (v := ?_) (by kernel_rfl) (by kernel_rfl) (by kernel_rfl) (by kernel_rfl) (by kernel_rfl) (fun _ _ _ h => h) (fun o ho => ?_) hS0 ?_
 rotate_left
 ·simp only [zA, zB, zC, zD] at ho
  subst ho
  refine Or.inl ⟨by rfl, fun w' hSw => ?_⟩
  obtain ⟨hSw0, hSw1⟩ := hSw
  go_simp
  try with_reducible rfl
 try simp only [Act.put, yA, yB, yC]
 refine till_at (i := 6) (d := some 23) (v := ?_) (by kernel_rfl) (by kernel_rfl) (by kernel_rfl) (by kernel_rfl) (by kernel_rfl) (fun _ _ _ h => h) (fun o ho => ?_) hS0 ?_
 rotate_left
 ·simp only [zA, zB, zC, zD] at ho
  subst ho
  refine Or.inl ⟨by rfl, fun w' hSw => ?_⟩
  obtain ⟨hSw0, hSw1⟩ := hSw
  go_simp
  try with_reducible rfl
 try simp only [Act.put, yA, yB, yC]
 refine till_at (i := 7) (d := some 24) (v := ?_) (by kernel_rfl) (by kernel_rfl) (by kernel_rfl) (by kernel_rfl) (by kernel_rfl) (fun _ _ _ h => h) (fun o ho => ?_) hS0 ?_
 rotate_left
 ·simp only [zA, zB, zC, zD] at ho
  subst ho
  refine Or.inl ⟨by rfl, fun w' hSw => ?_⟩
  obtain ⟨hSw0, hSw1⟩ := hSw
  go_simp
  try with_reducible rfl
 try simp only [Act.put, yA, yB, yC]
 refine till_step (i := 8) (by kernel_rfl) (by kernel_rfl) (fun o ho K' hK => ?_)
 simp only [zA, zB, zC, zD] at ho
 subst ho
 refine step_append_row E_spans (by rfl) _ _ (by rfl) w1.heap.size (by rfl) (World.ownsRow_nil _ _ _ _) (by rfl) (HU.out _ hx1.drew) (pairs_len _) (pairs_one _) HSZ.out.1 HSZ.out.2 ((Ext.refl w1).drew.size) ?_
 intro u5 w5 hown5 hgrow5 _
 have hx15 : Ext w1 w5 := Ext.grown (Ext.refl w1).drew hgrow5 (fun k hk => by cases hk)
 simp only [Nat.zero_add, List.nil_append] at hown5
 have hown5' := hown5
 rw [HN.out] at hown5'
 obtain ⟨g5, c5, hu5⟩ := owns_succ hown5'
 rw [← HN.out] at hu5
 subst hu5
 have HO5 := Lib.hid (And.intro hown5 hx15)
 have hO1 := owns_ext HOWN1.out hx15
 have hc5 := row_cell hO1 HVR.out
 have hf5 := hO1.frozenAt r
 clear hown5 hown5' hgrow5 hO1
 have hS8 := HD2.out _ (hx1.trans hx15)
 refine hK.out _ _ (fun _ => hS8) (fun _ => ?_)
 clear hK K'
 try simp only [Act.put, yA, yB, yC]
 refine till_at (i := 9) (d := some 26) (v := ?_) (by kernel_rfl) (by kernel_rfl) (by kernel_rfl) (by kernel_rfl) (by kernel_rfl) (fun _ _ _ h => h) (fun o ho => ?_) hS8 ?_
 rotate_left
 ·simp only [zA, zB, zC, zD] at ho
  subst ho
  refine Or.inl ⟨by rfl, fun w' hSw => ?_⟩
  obtain ⟨hSw0, hSw1⟩ := hSw
  go_simp
  try with_reducible rfl
 try simp only [Act.put, yA, yB, yC]
 refine till_step (i := 10) (by kernel_rfl) (by kernel_rfl) (fun o ho K' hK => ?_)
 simp only [zA, zB, zC, zD] at ho
 subst ho
 go_simp
 refine hK.out _ _ (fun h => absurd rfl h) (fun _ => ?_)
 clear hK K'
 try simp only [Act.put, yA, yB, yC]
 refine till_done (by kernel_rfl) ?_ _
 refine NoPanic.normal ?_
 try simp only [Act.put, yA, yB, yC]
 go_upto_region 3 with fail
 have hgw : W0.heap.size ≤ gw ∧ gw < w1.heap.size := ⟨owns_block HOWN1.out gw rfl, (World.ownsRow.lt HOWN1.out gw rfl).2⟩
 obtain ⟨w6, hw6⟩ : ∃ w6, w6 = w5.setCell ⟨gw, r, none⟩ (.slice (some ⟨g5, 0, none⟩) row0.length c5) := ⟨_, rfl⟩
 have hT6 : Touch (· = gw) w5 w6 := by rw [hw6]; exact Touch.setCell _ rfl
 have hx6 : Ext W0 w6 := by rw [hw6]; exact (hx1.trans hx15).setCell (by have := hgw.1; exact this) _
 have hout6 : w6.ownsRow W0.heap.size 60 1 (.slice (some ⟨gw, 0, none⟩) rows.length cw) rows.length (vs.set r (.slice (some ⟨g5, 0, none⟩) row0.length c5)) := by rw [hw6]; exact ((owns_ext HOWN1.out hx15).stored r _).1
 have hg5 : w1.heap.size ≤ g5 := owns_block HO5.out.1 g5 rfl
 have hrow6 : w6.ownsRow w1.heap.size 52 2 (.slice (some ⟨g5, 0, none⟩) row0.length c5) row0.length (row0.flatMap pairC) := owns_touch HO5.out.1 hT6 (fun g hg h => (by
  have h1 : some g5 = some g := hg
  cases h1
  have h2 : g5 = gw := h
  omega))
 rw [← hw6]
 have HG5 := Lib.hid hg5
 have HGW := Lib.hid hgw
 have HX6 := Lib.hid hx6
 have HOUT6 := Lib.hid hout6
 have HROW6 := Lib.hid hrow6
 obtain ⟨b0, b1, b2, b3, b4, b5⟩ := HS.out w6 hx6
 have hwf : IntKind.i64.wrap (R'.vary + s.off) = R'.vary + s.off := IntWalk.i64_in _ (by omega)
 clear hw6 hT6 hx6 hout6 hrow6 hg5 hgw hc5 hf5 hx15 hx1
 go_quiet (fail)
 go_wp2
 obtain ⟨w7, hw7⟩ : ∃ w7, w7 = w6.drewN nq := ⟨_, rfl⟩
 rw [← hw7]
 have hx7 : Ext w6 w7 := by rw [hw7]; exact (Ext.refl w6).drewN nq
 clear hw7 b0 b1 b2 b3 b4 b5
 obtain ⟨fy, hfy⟩ : ∃ fy : Nat, fy = y + 1 - s.rings.length := ⟨_, rfl⟩
 have HFY := Lib.hid hfy
 have hout7 := owns_ext HOUT6.out hx7
 have hrow7 := owns_ext HROW6.out hx7
 rw [← hfy]
 clear hfy
 go_loopw [12] (fun i wr => ∃ (k : Nat) (rw : List (Int × Int)), k ≤ s.rings.length ∧ i = .int .i64 k ∧ Ext W0 wr ∧ wr.ownsRow W0.heap.size 60 1 (.slice (some ⟨gw, 0, none⟩) rows.length cw) rows.length (vs.set r (.slice (some ⟨g5, 0, none⟩) row0.length c5)) ∧
  wr.ownsRow w1.heap.size 52 2 (.slice (some ⟨g5, 0, none⟩) row0.length c5) row0.length (rw.flatMap pairC) ∧ Hid (rw.length = row0.length) ∧ Hid (narrowL (R'.vary + s.off) (s.rings.drop k) (fy + k) rw = narrowL (R'.vary + s.off) s.rings fy row0)) (fun i _ => s.rings.length - (intOf i).toNat)
 case atStart => exact ⟨0, row0, Nat.zero_le _, rfl, HX6.out.trans hx7, hout7, hrow7, rfl, by simp [Hid]⟩
 case round =>
  obtain ⟨k, rw, hk, rfl, hxr, hout, hown, hrl, hnr⟩ := hrel
  obtain ⟨b0, b1, b2, b3, b4, b5⟩ := HS.out wr hxr
  by_cases hlt : k < s.rings.length
  ·obtain ⟨gb, go, n, rfl, hnk, hcn⟩ := HG3.out k hlt
   have hdn := (HXB.out.trans hxr).cell hcn
   have hnb := hS.ring n (List.mem_of_getElem? hnk.out)
   obtain ⟨p, hp⟩ : ∃ p, p = fy + k := ⟨_, rfl⟩
   have hl0 := HL0.out
   have hpi : (y : Int) - (s.rings.length : Int) + 1 + (k : Int) = (p : Int) := by have := HFY.out; omega
   have hpl : p < row0.length := by omega
   have hpr : p < rw.length := by rw [hrl.out]; exact hpl
   obtain ⟨q, hq⟩ : ∃ q, rw[p]? = some q := ⟨rw[p], by simp [hpr]⟩
   obtain ⟨c0, c1⟩ := pair_cells hown hq hpl
   have c2 := row_cell hout (show (vs.set r (.slice (some ⟨g5, 0, none⟩) row0.length c5))[r]? = some (.slice (some ⟨g5, 0, none⟩) row0.length c5) by rw [List.getElem?_set_self (by have := (List.getElem?_eq_some_iff.1 HVR.out).1; exact this)])
   have hgl := lt_of_cell c0
   simp only at hgl
   have p1 : (0 : Int) ≤ (p : Int) := by omega
   have p2 : (p : Int) < (row0.length : Int) := by omega
   have p3 : (0 : Int) ≤ (k : Int) := by omega
   have p4 : (k : Int) < (s.rings.length : Int) := by omega
   have hstep := narrowL_step (off := R'.vary + s.off) (n := n) (ns := s.rings.drop (k + 1)) hq
   have hdrop : s.rings.drop k = n :: s.rings.drop (k + 1) := by
    obtain ⟨hl, he⟩ := List.getElem?_eq_some_iff.1 hnk.out
    rw [← he, List.drop_eq_getElem_cons hl]
   have hnr2 := hnr.out
   rw [hdrop, ← hp, hstep] at hnr2
   have HOWR := Lib.hid hown
   have HOUT := Lib.hid hout
   have HXR := Lib.hid hxr
   have HPK := Lib.hid hp
   have hlt' : decide ((k : Int) < (s.rings.length : Int)) = true := by simpa using hlt
   have w3' : IntKind.i64.wrap ((y : Int) - (s.rings.length : Int) + 1 + (k : Int)) = (p : Int) := by rw [hpi]; exact IntWalk.i64_in _ (by omega)
   have w4' : IntKind.i64.wrap (p : Int) = (p : Int) := IntWalk.i64_in _ (by omega)
   have HQ := Lib.hid hq
   clear hcn hq hstep hdrop hp hout hown hxr hl0 hnr
   go_upto_region 9 with fail
   have hbx := Box2.new wr (.int .i64 q.1) (.int .i64 q.2) 52
   obtain ⟨wx, hwx⟩ : ∃ wx, wx = wr.alloc (.cells #[.int .i64 q.1, .int .i64 q.2] 52) := ⟨_, rfl⟩
   have hxx : Ext wr wx := by rw [hwx]; exact (Ext.refl wr).alloc _
   rw [← hwx] at hbx ⊢
   have HSX := Lib.hid (fun W (h : Ext wx W) => (⟨h.cell hbx.c0, h.cell hbx.c1, h.cell (hxx.cell b1), h.cell (hxx.cell hdn)⟩ : W.cell? ⟨wr.heap.size, 0, none⟩ = some (.int .i64 q.1) ∧ W.cell? ⟨wr.heap.size, 1, none⟩ = some (.int .i64 q.2) ∧ W.cell? ⟨w.heap.size + 1, 0, none⟩ = some (.slice (some ⟨gb, go, none⟩) s.rings.length gc) ∧ W.cell? ⟨gb, go + k, none⟩ = some (.int .i64 n)))
   obtain ⟨m1, hm1⟩ : ∃ m1, (if q.1 < n - (R'.vary + s.off) then n - (R'.vary + s.off) else q.1) = m1 := ⟨_, rfl⟩
   obtain ⟨m2, hm2⟩ : ∃ m2, (if n + (R'.vary + s.off) < q.2 then n + (R'.vary + s.off) else q.2) = m2 := ⟨_, rfl⟩
   have hmeet : meet q n (R'.vary + s.off) = (m1, m2) := by
    unfold meet
    rw [← hm1, ← hm2]
    refine Prod.ext ?_ ?_
    ·show max q.1 (n - (R'.vary + s.off)) = _
     split <;> omega
    ·show min q.2 (n + (R'.vary + s.off)) = _
     split <;> omega
   rw [hmeet] at hnr2
   have hx9 := ((hxx.setCell (p := ⟨wr.heap.size, 0, none⟩) (Nat.le_refl _) (.int .i64 m1)).setCell (p := ⟨wr.heap.size, 1, none⟩) (Nat.le_refl _) (.int .i64 m2)).drew
   have hb9 := (hbx.set (.int .i64 m1) (.int .i64 m2)).ext (Ext.refl _).drew
   obtain ⟨k0, k1, k2, k3⟩ := hbx
   have w5' : IntKind.i64.wrap (n - (R'.vary + s.off)) = n - (R'.vary + s.off) := IntWalk.i64_in _ (by omega)
   have w6' : IntKind.i64.wrap (n + (R'.vary + s.off)) = n + (R'.vary + s.off) := IntWalk.i64_in _ (by omega)
   have HC2 := Lib.hid c2
   have HB3 := Lib.hid b3
   clear hwx hxx hmeet b0 b1 b2 b3 b4 b5 c0 c1 c2 hdn
   refine wp_region_noPanic ?_
   refine wp_region_any (by kernel_rfl) (wpAny_of_till (z := 21) (S := (fun W => W.cell? ⟨wr.heap.size, 0, none⟩ = some (.int .i64 q.1) ∧ W.cell? ⟨wr.heap.size, 1, none⟩ = some (.int .i64 q.2) ∧ W.cell? ⟨w.heap.size + 1, 0, none⟩ = some (.slice (some ⟨gb, go, none⟩) s.rings.length gc) ∧ W.cell? ⟨gb, go + k, none⟩ = some (.int .i64 n))) _ _ _ _ ?_)
   change wpTill _ _ _ _ _ _ _ _ _ wx.drew
   have hS0 := HSX.out _ (Ext.refl wx).drew
   refine till_at (i := 0) (d := some 61) (v := ?_) (by kernel_rfl) (by kernel_rfl) (by kernel_rfl) (by kernel_rfl) (by kernel_rfl) (fun _ _ _ h => h) (fun o ho => ?_) hS0 ?_
   rotate_left
   ·simp only [zA, zB, zD] at ho
    subst ho
    refine Or.inl ⟨by rfl, fun w' hSw => ?_⟩
    obtain ⟨hSw0, hSw1, hSw2, hSw3⟩ := hSw
    go_simp
    try with_reducible rfl
   try simp only [Act.put, yA, yB, yC]
   refine till_at (i := 1) (d := some 62) (v := ?_) (by kernel_rfl) (by kernel_rfl) (by kernel_rfl) (by kernel_rfl) (by kernel_rfl) (fun _ _ _ h => h) (fun o ho => ?_) hS0 ?_
   rotate_left
   ·simp only [zA, zB, zC, zD] at ho
    subst ho
    refine Or.inl ⟨by rfl, fun w' hSw => ?_⟩
    obtain ⟨hSw0, hSw1, hSw2, hSw3⟩ := hSw
    go_simp
    try with_reducible rfl
   try simp only [Act.put, yA, yB, yC]
   refine till_at (i := 2) (d := some 63) (v := ?_) (by kernel_rfl) (by kernel_rfl) (by kernel_rfl) (by kernel_rfl) (by kernel_rfl) (fun _ _ _ h => h) (fun o ho => ?_) hS0 ?_
   rotate_left
   ·simp only [zA, zB, zC, zD] at ho
    subst ho
    refine Or.inl ⟨by rfl, fun w' hSw => ?_⟩
    obtain ⟨hSw0, hSw1, hSw2, hSw3⟩ := hSw
    go_simp
    try with_reducible rfl
   try simp only [Act.put, yA, yB, yC]
   refine till_at (i := 3) (d := some 64) (v := ?_) (by kernel_rfl) (by kernel_rfl) (by kernel_rfl) (by kernel_rfl) (by kernel_rfl) (fun _ _ _ h => h) (fun o ho => ?_) hS0 ?_
   rotate_left
   ·simp only [zA, zB, zC, zD] at ho
    subst ho
    refine Or.inl ⟨by rfl, fun w' hSw => ?_⟩
    obtain ⟨hSw0, hSw1, hSw2, hSw3⟩ := hSw
    go_simp
    try with_reducible rfl
   try simp only [Act.put, yA, yB, yC]
   refine till_at (i := 4) (d := some 65) (v := ?_) (by kernel_rfl) (by kernel_rfl) (by kernel_rfl) (by kernel_rfl) (by kernel_rfl) (fun _ _ _ h => h) (fun o ho => ?_) hS0 ?_
   rotate_left
   ·simp only [zA, zB, zC, zD] at ho
    subst ho
    refine Or.inl ⟨by rfl, fun w' hSw => ?_⟩
    obtain ⟨hSw0, hSw1, hSw2, hSw3⟩ := hSw
    go_simp
    try with_reducible rfl
   try simp only [Act.put, yA, yB, yC]
   refine till_at (i := 5) (d := some 66) (v := ?_) (by kernel_rfl) (by kernel_rfl) (by kernel_rfl) (by kernel_rfl) (by kernel_rfl) (fun _ _ _ h => h) (fun o ho => ?_) hS0 ?_
   rotate_left
   ·simp only [zA, zB, zC, zD] at ho
    subst ho
    refine Or.inl ⟨by rfl, fun w' hSw => ?_⟩
    obtain ⟨hSw0, hSw1, hSw2, hSw3⟩ := hSw
    go_simp
    try with_reducible rfl
   try simp only [Act.put, yA, yB, yC]
   refine till_at (i := 6) (d := some 67) (v := ?_) (by kernel_rfl) (by kernel_rfl) (by kernel_rfl) (by kernel_rfl) (by kernel_rfl) (fun _ _ _ h => h) (fun o ho => ?_) hS0 ?_
   rotate_left
   ·simp only [zA, zB, zC, zD] at ho
    subst ho
    refine Or.inl ⟨by rfl, fun w' hSw => ?_⟩
    obtain ⟨hSw0, hSw1, hSw2, hSw3⟩ := hSw
    go_simp
    try with_reducible rfl
   try simp only [Act.put, yA, yB, yC]
   refine till_at (i := 7) (d := some 68) (v := ?_) (by kernel_rfl) (by kernel_rfl) (by kernel_rfl) (by kernel_rfl) (by kernel_rfl) (fun _ _ _ h => h) (fun o ho => ?_) hS0 ?_
   rotate_left
   ·simp only [zA, zB, zC, zD] at ho
    subst ho
    refine Or.inl ⟨by rfl, fun w' hSw => ?_⟩
    obtain ⟨hSw0, hSw1, hSw2, hSw3⟩ := hSw
    go_simp
    try with_reducible rfl
   try simp only [Act.put, yA, yB, yC]
   refine till_at (i := 8) (d := some 69) (v := ?_) (by kernel_rfl) (by kernel_rfl) (by kernel_rfl) (by kernel_rfl) (by kernel_rfl) (fun _ _ _ h => h) (fun o ho => ?_) hS0 ?_
   rotate_left
   ·simp only [zA, zB, zC, zD] at ho
    subst ho
    refine Or.inl ⟨by rfl, fun w' hSw => ?_⟩
    obtain ⟨hSw0, hSw1, hSw2, hSw3⟩ := hSw
    go_simp
    try with_reducible rfl
   try simp only [Act.put, yA, yB, yC]
   refine till_at (i := 9) (d := some 70) (v := ?_) (by kernel_rfl) (by kernel_rfl) (by kernel_rfl) (by kernel_rfl) (by kernel_rfl) (fun _ _ _ h => h) (fun o ho => ?_) hS0 ?_
   rotate_left
   ·simp only [zA, zB, zC, zD] at ho
    subst ho
    refine Or.inl ⟨by rfl, fun w' hSw => ?_⟩
    obtain ⟨hSw0, hSw1, hSw2, hSw3⟩ := hSw
    go_simp
    try with_reducible rfl
   try simp only [Act.put, yA, yB, yC]
   refine till_at (i := 10) (d := some 71) (v := ?_) (by kernel_rfl) (by kernel_rfl) (by kernel_rfl) (by kernel_rfl) (by kernel_rfl) (fun _ _ _ h => h) (fun o ho => ?_) hS0 ?_
   rotate_left
   ·simp only [zA, zB, zC, zD] at ho
    subst ho
    refine Or.inl ⟨by rfl, fun w' hSw => ?_⟩
    obtain ⟨hSw0, hSw1, hSw2, hSw3⟩ := hSw
    go_simp
    try with_reducible rfl
   try simp only [Act.put, yA, yB, yC]
   refine till_at (i := 11) (d := some 72) (v := ?_) (by kernel_rfl) (by kernel_rfl) (by kernel_rfl) (by kernel_rfl) (by kernel_rfl) (fun _ _ _ h => h) (fun o ho => ?_) hS0 ?_
   rotate_left
   ·simp only [zA, zB, zC, zD] at ho
    subst ho
    refine Or.inl ⟨by rfl, fun w' hSw => ?_⟩
    obtain ⟨hSw0, hSw1, hSw2, hSw3⟩ := hSw
    go_simp
    try with_reducible rfl
   try simp only [Act.put, yA, yB, yC]
   refine till_at (i := 12) (d := some 73) (v := ?_) (by kernel_rfl) (by kernel_rfl) (by kernel_rfl) (by kernel_rfl) (by kernel_rfl) (fun _ _ _ h => h) (fun o ho => ?_) hS0 ?_
   rotate_left
   ·simp only [zA, zB, zC, zD] at ho
    subst ho
    refine Or.inl ⟨by rfl, fun w' hSw => ?_⟩
    obtain ⟨hSw0, hSw1, hSw2, hSw3⟩ := hSw
    go_simp
    try with_reducible rfl
   try simp only [Act.put, yA, yB, yC]
   refine till_at (i := 13) (d := some 74) (v := ?_) (by kernel_rfl) (by kernel_rfl) (by kernel_rfl) (by kernel_rfl) (by kernel_rfl) (fun _ _ _ h => h) (fun o ho => ?_) hS0 ?_
   rotate_left
   ·simp only [zA, zB, zC, zD] at ho
    subst ho
    refine Or.inl ⟨by rfl, fun w' hSw => ?_⟩
    obtain ⟨hSw0, hSw1, hSw2, hSw3⟩ := hSw
    go_simp
    try with_reducible rfl
   try simp only [Act.put, yA, yB, yC]
   refine till_at (i := 14) (d := some 75) (v := ?_) (by kernel_rfl) (by kernel_rfl) (by kernel_rfl) (by kernel_rfl) (by kernel_rfl) (fun _ _ _ h => h) (fun o ho => ?_) hS0 ?_
   rotate_left
   ·simp only [zA, zB, zC, zD] at ho
    subst ho
    refine Or.inl ⟨by rfl, fun w' hSw => ?_⟩
    obtain ⟨hSw0, hSw1, hSw2, hSw3⟩ := hSw
    go_simp
    try with_reducible rfl
   try simp only [Act.put, yA, yB, yC]
   refine till_at (i := 15) (d := some 76) (v := ?_) (by kernel_rfl) (by kernel_rfl) (by kernel_rfl) (by kernel_rfl) (by kernel_rfl) (fun _ _ _ h => h) (fun o ho => ?_) hS0 ?_
   rotate_left
   ·simp only [zA, zB, zC, zD] at ho
    subst ho
    refine Or.inl ⟨by rfl, fun w' hSw => ?_⟩
    obtain ⟨hSw0, hSw1, hSw2, hSw3⟩ := hSw
    go_simp
    try with_reducible rfl
   try simp only [Act.put, yA, yB, yC]
   refine till_at (i := 16) (d := some 77) (v := ?_) (by kernel_rfl) (by kernel_rfl) (by kernel_rfl) (by kernel_rfl) (by kernel_rfl) (fun _ _ _ h => h) (fun o ho => ?_) hS0 ?_
   rotate_left
   ·simp only [zA, zB, zC, zD] at ho
    subst ho
    refine Or.inl ⟨by rfl, fun w' hSw => ?_⟩
    obtain ⟨hSw0, hSw1, hSw2, hSw3⟩ := hSw
    go_simp
    try with_reducible rfl
   try simp only [Act.put, yA, yB, yC]
   refine till_at (i := 17) (d := some 78) (v := ?_) (by kernel_rfl) (by kernel_rfl) (by kernel_rfl) (by kernel_rfl) (by kernel_rfl) (fun _ _ _ h => h) (fun o ho => ?_) hS0 ?_
   rotate_left
   ·simp only [zA, zB, zC, zD] at ho
    subst ho
    refine Or.inl ⟨by rfl, fun w' hSw => ?_⟩
    obtain ⟨hSw0, hSw1, hSw2, hSw3⟩ := hSw
    go_simp
    try with_reducible rfl
   try simp only [Act.put, yA, yB, yC]
   refine till_at (i := 18) (d := some 79) (v := ?_) (by kernel_rfl) (by kernel_rfl) (by kernel_rfl) (by kernel_rfl) (by kernel_rfl) (fun _ _ _ h => h) (fun o ho => ?_) hS0 ?_
   rotate_left
   ·simp only [zA, zB, zC, zD] at ho
    subst ho
    refine Or.inl ⟨by rfl, fun w' hSw => ?_⟩
    obtain ⟨hSw0, hSw1, hSw2, hSw3⟩ := hSw
    go_simp
    try with_reducible rfl
   try simp only [Act.put, yA, yB, yC]
   refine till_at (i := 19) (d := some 80) (v := ?_) (by kernel_rfl) (by kernel_rfl) (by kernel_rfl) (by kernel_rfl) (by kernel_rfl) (fun _ _ _ h => h) (fun o ho => ?_) hS0 ?_
   rotate_left
   ·simp only [zA, zB, zC, zD] at ho
    subst ho
    refine Or.inl ⟨by rfl, fun w' hSw => ?_⟩
    obtain ⟨hSw0, hSw1, hSw2, hSw3⟩ := hSw
    go_simp
    try with_reducible rfl
   try simp only [Act.put, yA, yB, yC]
   refine till_at (i := 20) (d := some 81) (v := ?_) (by kernel_rfl) (by kernel_rfl) (by kernel_rfl) (by kernel_rfl) (by kernel_rfl) (fun _ _ _ h => h) (fun o ho => ?_) hS0 ?_
   rotate_left
   ·simp only [zA, zB, zC, zD] at ho
    subst ho
    refine Or.inl ⟨by rfl, fun w' hSw => ?_⟩
    obtain ⟨hSw0, hSw1, hSw2, hSw3⟩ := hSw
    go_simp
    try with_reducible rfl
   try simp only [Act.put, yA, yB, yC]
   refine till_step (i := 21) (by kernel_rfl) (by kernel_rfl) (fun o ho K' hK => ?_)
   simp only [zA, zB, zC, zD] at ho
   subst ho
   go_simp
   refine hK.out _ _ (fun h => absurd rfl h) (fun _ => ?_)
   clear hK K'
   try simp only [Act.put, yA, yB, yC]
   refine till_done (by kernel_rfl) ?_ _
   refine NoPanic.normal ?_
   try simp only [Act.put, yA, yB, yC]
   obtain ⟨w9, hw9⟩ : ∃ w9, w9 = ((wx.setCell ⟨wr.heap.size, 0, none⟩ (.int .i64 m1)).setCell ⟨wr.heap.size, 1, none⟩ (.int .i64 m2)).drew := ⟨_, rfl⟩
   rw [← hw9] at hx9 hb9 ⊢
   have HX9 := Lib.hid hx9
   obtain ⟨k0, k1, k2, k3⟩ := hb9
   clear hw9 hx9
   by_cases hbad : m2 < m1
   ·have x5 : decide (m2 < m1) = true := by simpa using hbad
    rw [if_pos (show ((m1, m2) : Int × Int).2 < ((m1, m2) : Int × Int).1 from hbad)] at hnr2
    have HNO := Lib.hid hnr2
    clear hnr2 hbad
    go_wp2
    go_ret2
    refine ⟨HXB.out.trans (HXR.out.trans HX9.out), ?_⟩
    rw [HGET.out]; (try rw [← HFY.out]); rw [← HNO.out]
    first | done | rfl
   ·have x5 : decide (m2 < m1) = false := by simpa using hbad
    rw [if_neg (show ¬ ((m1, m2) : Int × Int).2 < ((m1, m2) : Int × Int).1 from hbad)] at hnr2
    have HNR := Lib.hid hnr2
    clear hnr2 hbad
    have hro := owns_ext HOWR.out HX9.out
    obtain ⟨c0, c1⟩ := pair_cells hro HQ.out hpl
    have e0 := hro.frozenAt (p * 2)
    have e1 := hro.frozenAt (p * 2 + 1)
    have b3 := HX9.out.cell HB3.out
    have c2 := HX9.out.cell HC2.out
    have HS12 := Lib.hid (fun W (h : Ext w9 W) => (⟨h.cell b3, h.cell c2, h.cell k0, h.cell k1⟩ : W.cell? ⟨w.heap.size + 2, 0, none⟩ = some (.int .i64 (r : Int)) ∧ W.cell? ⟨gw, r, none⟩ = some (.slice (some ⟨g5, 0, none⟩) row0.length c5) ∧ W.cell? ⟨wr.heap.size, 0, none⟩ = some (.int .i64 m1) ∧ W.cell? ⟨wr.heap.size, 1, none⟩ = some (.int .i64 m2)))
    have hg50 : W0.heap.size ≤ g5 := by have := HG5.out; have := HGW.out; omega
    have hgne : ¬ gw = g5 := by have := HG5.out; have := HGW.out; omega
    have HX12 := Lib.hid ((((HXR.out.trans HX9.out).setCell (p := ⟨g5, p * 2, none⟩) hg50 (.int .i64 m1)).setCell (p := ⟨g5, p * 2 + 1, none⟩) hg50 (.int .i64 m2)).drew)
    have HRO12 := Lib.hid (owns_ext (row_stored (p := p) hro (m1, m2)) (Ext.refl _).drew)
    have hto : Touch (· = g5) w9 ((w9.setCell ⟨g5, p * 2, none⟩ (.int .i64 m1)).setCell ⟨g5, p * 2 + 1, none⟩ (.int .i64 m2)) := (Touch.setCell (M := (· = g5)) (A := w9) (a := ⟨g5, p * 2, none⟩) (.int .i64 m1) rfl).trans (Touch.setCell (M := (· = g5)) (a := ⟨g5, p * 2 + 1, none⟩) (.int .i64 m2) rfl)
    have HOU12 := Lib.hid (owns_ext (owns_touch (owns_ext HOUT.out HX9.out) hto (fun g hg h => (by
     have h1 : some gw = some g := hg
     cases h1
     exact hgne h))) (Ext.refl _).drew)
    have HLEN := Lib.hid (show (rw.set p (m1, m2)).length = row0.length by rw [List.length_set]; exact hrl.out)
    clear b3 c2 hro hto
    go_upto_region 12 with fail
    refine wp_region_noPanic ?_
    refine wp_region_any (by kernel_rfl) (wpAny_of_till (z := 8) (S := (fun W => W.cell? ⟨w.heap.size + 2, 0, none⟩ = some (.int .i64 (r : Int)) ∧ W.cell? ⟨gw, r, none⟩ = some (.slice (some ⟨g5, 0, none⟩) row0.length c5) ∧ W.cell? ⟨wr.heap.size, 0, none⟩ = some (.int .i64 m1) ∧ W.cell? ⟨wr.heap.size, 1, none⟩ = some (.int .i64 m2))) _ _ _ _ ?_)
    change wpTill _ _ _ _ _ _ _ _ _ w9.drew
    have hS0 := HS12.out _ (Ext.refl w9).drew
    refine till_at (i := 0) (d := some 87) (v := ?_) (by kernel_rfl) (by kernel_rfl) (by kernel_rfl) (by kernel_rfl) (by kernel_rfl) (fun _ _ _ h => h) (fun o ho => ?_) hS0 ?_
    rotate_left
    ·simp only [zA, zB, zD] at ho
     subst ho
     refine Or.inl ⟨by rfl, fun w' hSw => ?_⟩
     obtain ⟨hSw0, hSw1, hSw2, hSw3⟩ := hSw
     go_simp
     try with_reducible rfl
    try simp only [Act.put, yA, yB, yC]
    refine till_at (i := 1) (d := some 88) (v := ?_) (by kernel_rfl) (by kernel_rfl) (by kernel_rfl) (by kernel_rfl) (by kernel_rfl) (fun _ _ _ h => h) (fun o ho => ?_) hS0 ?_
    rotate_left
    ·simp only [zA, zB, zC, zD] at ho
     subst ho
     refine Or.inl ⟨by rfl, fun w' hSw => ?_⟩
     obtain ⟨hSw0, hSw1, hSw2, hSw3⟩ := hSw
     go_simp
     try with_reducible rfl
    try simp only [Act.put, yA, yB, yC]
    refine till_at (i := 2) (d := some 89) (v := ?_) (by kernel_rfl) (by kernel_rfl) (by kernel_rfl) (by kernel_rfl) (by kernel_rfl) (fun _ _ _ h => h) (fun o ho => ?_) hS0 ?_
    rotate_left
    ·simp only [zA, zB, zC, zD] at ho
     subst ho
     refine Or.inl ⟨by rfl, fun w' hSw => ?_⟩
     obtain ⟨hSw0, hSw1, hSw2, hSw3⟩ := hSw
     go_simp
     try with_reducible rfl
    try simp only [Act.put, yA, yB, yC]
    refine till_at (i := 3) (d := some 90) (v := ?_) (by kernel_rfl) (by kernel_rfl) (by kernel_rfl) (by kernel_rfl) (by kernel_rfl) (fun _ _ _ h => h) (fun o ho => ?_) hS0 ?_
    rotate_left
    ·simp only [zA, zB, zC, zD] at ho
     subst ho
     refine Or.inl ⟨by rfl, fun w' hSw => ?_⟩
     obtain ⟨hSw0, hSw1, hSw2, hSw3⟩ := hSw
     go_simp
     try with_reducible rfl
    try simp only [Act.put, yA, yB, yC]
    refine till_at (i := 4) (d := some 91) (v := ?_) (by kernel_rfl) (by kernel_rfl) (by kernel_rfl) (by kernel_rfl) (by kernel_rfl) (fun _ _ _ h => h) (fun o ho => ?_) hS0 ?_
    rotate_left
    ·simp only [zA, zB, zC, zD] at ho
     subst ho
     refine Or.inl ⟨by rfl, fun w' hSw => ?_⟩
     obtain ⟨hSw0, hSw1, hSw2, hSw3⟩ := hSw
     go_simp
     try with_reducible rfl
    try simp only [Act.put, yA, yB, yC]
    refine till_at (i := 5) (d := some 92) (v := ?_) (by kernel_rfl) (by kernel_rfl) (by kernel_rfl) (by kernel_rfl) (by kernel_rfl) (fun _ _ _ h => h) (fun o ho => ?_) hS0 ?_
    rotate_left
    ·simp only [zA, zB, zC, zD] at ho
     subst ho
     refine Or.inl ⟨by rfl, fun w' hSw => ?_⟩
     obtain ⟨hSw0, hSw1, hSw2, hSw3⟩ := hSw
     go_simp
     try with_reducible rfl
    try simp only [Act.put, yA, yB, yC]
    refine till_at (i := 6) (d := some 93) (v := ?_) (by kernel_rfl) (by kernel_rfl) (by kernel_rfl) (by kernel_rfl) (by kernel_rfl) (fun _ _ _ h => h) (fun o ho => ?_) hS0 ?_
    rotate_left
    ·simp only [zA, zB, zC, zD] at ho
     subst ho
     refine Or.inl ⟨by rfl, fun w' hSw => ?_⟩
     obtain ⟨hSw0, hSw1, hSw2, hSw3⟩ := hSw
     go_simp
     try with_reducible rfl
    try simp only [Act.put, yA, yB, yC]
    refine till_at (i := 7) (d := some 94) (v := ?_) (by kernel_rfl) (by kernel_rfl) (by kernel_rfl) (by kernel_rfl) (by kernel_rfl) (fun _ _ _ h => h) (fun o ho => ?_) hS0 ?_
    rotate_left
    ·simp only [zA, zB, zC, zD] at ho
     subst ho
     refine Or.inl ⟨by rfl, fun w' hSw => ?_⟩
     obtain ⟨hSw0, hSw1, hSw2, hSw3⟩ := hSw
     go_simp
     try with_reducible rfl
    try simp only [Act.put, yA, yB, yC]
    refine till_step (i := 8) (by kernel_rfl) (by kernel_rfl) (fun o ho K' hK => ?_)
    simp only [zA, zB, zC, zD] at ho
    subst ho
    go_simp
    refine hK.out _ _ (fun h => absurd rfl h) (fun _ => ?_)
    clear hK K'
    try simp only [Act.put, yA, yB, yC]
    refine till_done (by kernel_rfl) ?_ _
    refine NoPanic.normal ?_
    try simp only [Act.put, yA, yB, yC]
    go_wp2
    refine ⟨⟨k + 1, rw.set p (m1, m2), by omega, by go_num, HX12.out, HOU12.out, HRO12.out, HLEN.out, ?_⟩, by simp [intOf]; omega⟩
    have h1 := HNR.out
    rw [show fy + (k + 1) = p + 1 by have := HPK.out; omega]
    exact h1
  ·have hlt' : decide ((k : Int) < (s.rings.length : Int)) = false := by simp; omega
   have hkl : s.rings.drop k = [] := List.drop_of_length_le (by omega)
   have hnr2 := hnr.out
   rw [hkl] at hnr2
   have hsome : narrowL (R'.vary + s.off) s.rings fy row0 = some rw := by rw [← hnr2]; rfl
   have HSO := Lib.hid (show SpansOff M wr (.slice (some ⟨gw, 0, none⟩) rows.length cw) (rows.set r rw) from ⟨vs.set r (.slice (some ⟨g5, 0, none⟩) row0.length c5), by rw [List.length_set, List.length_set]; exact HVS.out.1, by
     have := RowAt.of_owns hout; rw [List.length_set]; exact this, fun a n c ha hm => by
     cases ha
     have := hM _ hm
     have h1 := HGW.out.1
     have h2 := HXB.out.size
     simp only at this
     omega, fun i x xs hx hxs => by
     by_cases hir : r = i
     ·subst hir
      rw [List.getElem?_set_self (List.getElem?_eq_some_iff.1 HVR.out).1] at hx
      rw [List.getElem?_set_self HRW.out] at hxs
      cases hx; cases hxs
      refine ⟨by have := RowAt.of_owns hown; rw [← hrl.out] at this ⊢; exact this, fun a n c ha hm => ?_⟩
      cases ha
      have := hM _ hm
      have h1 := HGW.out.1
      have h3 := HG5.out
      have h4 := HGW.out.2
      have h2 := HXB.out.size
      simp only at this
      omega
     ·rw [List.getElem?_set_ne hir] at hx hxs
      exact (HVS.out.2 i x xs hx hxs).ext (HXB.out.trans hxr)⟩)
   have HSM := Lib.hid hsome
   have HXR := Lib.hid hxr
   clear hout hown hnr hnr2 hsome hkl hxr
   go_wp2
   go_ret2
   refine ⟨HXB.out.trans HXR.out, ?_⟩
   rw [HGET.out]; (try rw [← HFY.out]); rw [HSM.out]
   exact ⟨_, _, rfl, HSO.out⟩
end Go.Proofs.YtiodjapdiflphaaGreatDoor
