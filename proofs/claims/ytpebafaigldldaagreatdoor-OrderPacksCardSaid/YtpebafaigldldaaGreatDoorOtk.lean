/- Packs as the law has them: the reference's Before and Better, the law's taken. -/
import Derived.Test.YtpebafaigldldaaGreatDoorRbk
import Derived.Test.YtpebafaigldldaaGreatDoorOlc
import Derived.Test.YtpebafaigldldaaGreatDoorOlk
import Derived.Test.YtpebafaigldldaaGreatDoorHeldt
import Derived.Test.YtpebafaigldldaaGreatDoorOaq
namespace Go.Proofs.YtpebafaigldldaaGreatDoor
open Go.RowKit
set_option maxRecDepth 100000 in
set_option maxHeartbeats 4000000 in
theorem rbefore_any (va vb : Value) (xs ys : List Int) (w : World) (ha : IntsAt w va xs) (hb : IntsAt w vb ys) :
  Calls Tryz.prog 78 #[va, vb] w fun e w' => e = .returned (.bool (decide (cmpL xs ys < 0))) ∧ Ext w w' := by
 obtain ⟨a, c, rfl, h1, h2, h3⟩ := ha.open
 obtain ⟨a', c', rfl, h1', h2', h3'⟩ := hb.open
 have hmix : Tryz.prog.follows .mixedOrders = true := by kernel_rfl
 have H3 := Lib.hid h3
 have H3' := Lib.hid h3'
 clear h3 h3' ha hb
 go_enter Tryz.func78, Tryz.ntmps78
 go_wp2
 go_loopw [5] (fun i wr => ∃ k : Nat, k ≤ xs.length ∧ k ≤ ys.length ∧ i = .int .i64 k ∧ Hid (xs.take k = ys.take k) ∧ Ext w wr) (fun i _ => xs.length - (intOf i).toNat)
 case atStart => exact ⟨0, Nat.zero_le _, Nat.zero_le _, rfl, rfl, Ext.refl _⟩
 case round =>
  obtain ⟨k, hk, hk', rfl, he, hx⟩ := hrel
  by_cases hlt : k < xs.length
  ·have x1 : decide ((k : Int) < (xs.length : Int)) = true := by simpa using hlt
   by_cases hlt' : k < ys.length
   ·have x2 : decide ((k : Int) < (ys.length : Int)) = true := by simpa using hlt'
    obtain ⟨b, o, x, rfl, hxk, hc⟩ := H3.out k hlt
    obtain ⟨b', o', y, rfl, hyk, hc'⟩ := H3'.out k hlt'
    have d0 := hx.cell hc
    have d1 := hx.cell hc'
    have i1 : (0 : Int) ≤ (k : Int) := by omega
    have i2 : (k : Int) < (xs.length : Int) := by omega
    have i3 : (k : Int) < (ys.length : Int) := by omega
    clear hc hc'
    by_cases hxy : x = y
    ·subst hxy
     have t3 : (x != x) = false := by simp
     have HE := Lib.hid (take_same he.out (by rw [hxk.out, hyk.out]))
     clear he hxk hyk
     go_wp2
     go_quiet (fail)
     go_wp2
     exact ⟨⟨k + 1, by omega, by omega, by go_num, HE.out, hx.drewN _⟩, by simp [intOf]; omega⟩
    ·have t3 : (x != y) = true := by simpa using hxy
     have HR : Hid (decide (cmpL xs ys < 0) = decide (x < y)) := by
      unfold Hid
      rw [cmpL_diff he.out hxk.out hyk.out hxy]
      by_cases h : x < y <;> simp [h]
     clear he hxk hyk
     go_wp2
     go_quiet (fail)
     go_wp2
     go_quiet (fail)
     go_wp2
     go_ret
     exact ⟨by rw [HR.out] <;> rfl, (hx.drewN _).drewN _⟩
   ·have x2 : decide ((k : Int) < (ys.length : Int)) = false := by simpa using hlt'
    have HR : Hid (decide (cmpL xs ys < 0) = decide (xs.length < ys.length)) := by
     unfold Hid
     have h := cmpL_pre he.out (.inr (by omega)) hk hk'
     rw [Bool.eq_iff_iff, decide_eq_true_eq, decide_eq_true_eq, h]
    clear he
    go_wp2
    go_ret
    exact ⟨by rw [HR.out] <;> rfl, hx⟩
  ·have x1 : decide ((k : Int) < (xs.length : Int)) = false := by simpa using hlt
   have HR : Hid (decide (cmpL xs ys < 0) = decide (xs.length < ys.length)) := by
    unfold Hid
    have h := cmpL_pre he.out (.inl (by omega)) hk hk'
    rw [Bool.eq_iff_iff, decide_eq_true_eq, decide_eq_true_eq, h]
   clear he
   go_wp2
   go_ret
   exact ⟨by rw [HR.out] <;> rfl, hx⟩
set_option maxRecDepth 100000 in
theorem rbetter_any (va vb : Value) (a b : List Int × Int) (m n : Int) (w : World) (ha : IntsAt w va a.1) (hb : IntsAt w vb b.1) :
  Calls Tryz.prog 31 #[.agg #[va, .int .i64 m, .int .i64 a.2], .agg #[vb, .int .i64 n, .int .i64 b.2]] w fun e w' => e = .returned (.bool (betterPk a b m n)) ∧ Ext w w' := by
 obtain ⟨aa, ac, rfl, -, -, -⟩ := ha.open
 obtain ⟨ba, bc, rfl, -, -, -⟩ := hb.open
 have HB := Lib.hid (fun (W : World) (h : Ext w W) => rbefore_any _ _ a.1 b.1 W (ha.ext h) (hb.ext h))
 obtain ⟨al, ap⟩ := a
 obtain ⟨bl, bp⟩ := b
 have hx := ((Ext.refl w).alloc (.cells #[.slice aa al.length ac, .int .i64 m, .int .i64 ap] 52)).alloc (.cells #[.slice ba bl.length bc, .int .i64 n, .int .i64 bp] 52)
 have HX := Lib.hid hx
 have HBN := Lib.hid (HB.out _ hx)
 clear ha hb hx HB
 by_cases h1 : ap = bp
 ·have t1 : (ap != bp) = false := by simpa using h1
  by_cases h2 : m = n
  ·have t2 : (m != n) = false := by simpa using h2
   have HR : Hid (betterPk (al, ap) (bl, bp) m n = decide (cmpL al bl < 0)) := by unfold Hid betterPk; simp only; rw [if_pos h1, if_pos h2]
   clear h1 h2
   go_enter Tryz.func31, Tryz.ntmps31
   go_wp2_with (go_at_call 78; refine HBN.out.mono ?_; rintro e w' ⟨rfl, hx1⟩)
   go_ret
   exact ⟨by rw [HR.out] <;> rfl, HX.out.trans hx1⟩
  ·have t2 : (m != n) = true := by simpa using h2
   have HR : Hid (betterPk (al, ap) (bl, bp) m n = decide (m < n)) := by unfold Hid betterPk; simp only; rw [if_pos h1, if_neg h2]
   clear h1 h2 HBN
   go_enter Tryz.func31, Tryz.ntmps31
   go_wp2
   go_ret
   exact ⟨by rw [HR.out] <;> rfl, HX.out⟩
 ·have t1 : (ap != bp) = true := by simpa using h1
  have HR : Hid (betterPk (al, ap) (bl, bp) m n = decide (ap < bp)) := by unfold Hid betterPk; simp only; rw [if_neg h1]
  clear h1 HBN
  go_enter Tryz.func31, Tryz.ntmps31
  go_wp2
  go_ret
  exact ⟨by rw [HR.out] <;> rfl, HX.out⟩
abbrev takenV (cv : Value) (m p h : Int) (b : Bool) : Value := .tuple #[.agg #[cv, .int .i64 m, .int .i64 p], .int .i64 h, .bool b]
def TakenRes (ks : List (Int × Int)) (cv : Value) (c : List Int) (w : World) (e : Ending) (w' : World) : Prop :=
 Ext w w' ∧ (okTake ks c = false ∧ e = .returned (takenV (.slice none 0 0) 0 0 0 false) ∨ okTake ks c = true ∧ e = .returned (takenV cv c.sum (priceOf ks c) (holdsOf ks c) (decide ((c.length : Int) = ks.length))))
theorem okTake_bad {ks : List (Int × Int)} {c : List Int} {k : Nat} {n : Int} (h : c[k]? = some n) (hb : badTake n = true) : okTake ks c = false := by
 unfold okTake; rw [any_at h hb]; simp
theorem all_in {c : List Int} {k : Nat} (hk : k ≤ c.length) (h : (c.take k).any badTake = false) : ∀ j, j < k → ∃ n, c[j]? = some n ∧ inB n 0 600 = true := fun j hj => by
 refine ⟨c[j]'(by omega), List.getElem?_eq_getElem (by omega), ?_⟩
 have h1 := List.any_eq_false.1 h (c[j]'(by omega)) (List.mem_of_getElem? (i := j) (by rw [List.getElem?_take, if_pos hj]; exact List.getElem?_eq_getElem (by omega)))
 unfold badTake at h1
 simpa using h1
theorem cell_addr (w : World) (b : Nat) (t : TypeId) (z0 z1 z2 : Value) (v : Value) (h : w.heap[b]? = some (.cells #[z0, z1, z2] t)) : (w.setCell ⟨b, 1, none⟩ v).heap[b]? = some (.cells #[z0, v, z2] t) := heap_setCell_same w b 1 _ t v h
theorem cell_addr2 (w : World) (b : Nat) (t : TypeId) (z0 z1 z2 : Value) (v : Value) (h : w.heap[b]? = some (.cells #[z0, z1, z2] t)) : (w.setCell ⟨b, 2, none⟩ v).heap[b]? = some (.cells #[z0, z1, v] t) := heap_setCell_same w b 2 _ t v h
theorem results_cell_row2 {P : Program} {fn : Func} {p u1 u2 : Tmp} {ty : TypeId} (h : fn.results = #[.cell p ty, .tmp u1, .tmp u2]) (tmps : Array Value) (w : World) (g : Nat) (t : TypeId) (cs : Array Value) (fr : Nat × Nat) (d : TypeDesc)
  (hp : tmps.getD p undef = .pointer (some ⟨g, 0, none⟩)) (hg : w.heap[g]? = some (.cells cs t fr)) (hu : P.underlying ty = some d) (hd : (match d with | .struct _ | .array _ _ => true | _ => false) = true) (hi : (P.info? ty).map (·.size) = some cs.size) :
  (results fn tmps).run P w = .ok (.tuple #[.agg cs, tmps.getD u1 undef, tmps.getD u2 undef]) w := by
 have hp' : tmps[p]?.getD undef = .pointer (some ⟨g, 0, none⟩) := by simpa using hp
 simp [results, h, hp', asAddr, run_loadVar_row w g t ty cs fr d hg hu hd hi]
theorem store3z {W : World} {k : Nat} {z0 z1 z2 : Value} {t : TypeId} (h : W.heap[k]? = some (.cells #[z0, z1, z2] t)) (a0 a1 a2 : Value) : (((W.setCell ⟨k, 0, none⟩ a0).setCell ⟨k, 1, none⟩ a1).setCell ⟨k, 2, none⟩ a2).heap[k]? = some (.cells #[a0, a1, a2] t) := store3 h a0 a1 a2
set_option maxRecDepth 100000 in
set_option maxHeartbeats 4000000 in
theorem taken_any (v cv : Value) (ks : List (Int × Int)) (c : List Int) (w : World) (hK : PacksB ks) (hv : RowOf packC w v ks) (hc : IntsAt w cv c) :
  Calls Tryz.prog 30 #[v, cv] w (TakenRes ks cv c w) := by
 have hmix : Tryz.prog.follows .mixedOrders = true := by kernel_rfl
 obtain ⟨la, lc, rfl, l1, l2, l3⟩ := RowOf.open2 (f := packC) (fun _ => rfl) hv
 obtain ⟨ca, cc, rfl, c1, c2, c3⟩ := hc.open
 have HL3 := Lib.hid l3
 have HC3 := Lib.hid c3
 have HK := Lib.hid hK
 clear l3 c3 hv hc
 obtain ⟨W, hW⟩ : ∃ W, W = (w.alloc (.cells #[.slice none 0 0, .int .i64 0, .int .i64 0] 52)).alloc (.cells #[.slice ca c.length cc, .int .i64 0, .int .i64 0] 52) := ⟨_, rfl⟩
 have hz4 : W.heap[w.heap.size]? = some (.cells #[.slice none 0 0, .int .i64 0, .int .i64 0] 52) := by rw [hW]; exact (((Ext.refl (w.alloc (.cells #[.slice none 0 0, .int .i64 0, .int .i64 0] 52))).alloc _).block (by simp)).trans (World.alloc_heap_new _ _)
 have hz6 : W.heap[w.heap.size + 1]? = some (.cells #[.slice ca c.length cc, .int .i64 0, .int .i64 0] 52) := by
  rw [hW]; have := World.alloc_heap_new (w.alloc (.cells #[.slice none 0 0, .int .i64 0, .int .i64 0] 52)) (.cells #[.slice ca c.length cc, .int .i64 0, .int .i64 0] 52); rwa [World.size_alloc] at this
 have HX0 := Lib.hid (show Ext w W by rw [hW]; exact ((Ext.refl w).alloc _).alloc _)
 go_enter Tryz.func30, Tryz.ntmps30
 go_upto_region 2 with fail
 rw [← hW]
 clear hW
 go_wp2
 go_loopw [8, 9] (fun h i wr => ∃ (k : Nat) (S PR HO : Int), k ≤ c.length ∧ k ≤ ks.length ∧ i = .int .i64 (k : Int) ∧ h = .int .i64 HO ∧ Hid ((c.take k).any badTake = false ∧ S = (c.take k).sum ∧ PR = priceOf ks (c.take k) ∧ HO = holdsOf ks (c.take k)) ∧ Ext w wr ∧ Hid (wr.heap[w.heap.size]? = some (.cells #[.slice none 0 0, .int .i64 0, .int .i64 0] 52)) ∧ Hid (wr.heap[w.heap.size + 1]? = some (.cells #[.slice ca c.length cc, .int .i64 S, .int .i64 PR] 52))) (fun _ i _ => c.length - (intOf i).toNat)
 case atStart => exact ⟨0, 0, 0, 0, Nat.zero_le _, Nat.zero_le _, rfl, rfl, ⟨by simp, by simp, by cases ks <;> rfl, by cases ks <;> rfl⟩, HX0.out, hz4, hz6⟩
 case round =>
  clear hz4 hz6
  obtain ⟨k, S, PR, HO, hk, hk', rfl, rfl, hs, hx, h4, h6⟩ := hrel
  obtain ⟨⟨g0, g1, g2⟩, x0, x1, x2⟩ := cells3 h4.out
  obtain ⟨⟨y0, y1, y2⟩, z0, z1, z2⟩ := cells3 h6.out
  by_cases hlt : k < c.length
  ·have t1 : decide ((k : Int) < (c.length : Int)) = true := by simpa using hlt
   obtain ⟨cb, co, n, rfl, hn, hcn⟩ := HC3.out k hlt
   have k1 : (0 : Int) ≤ (k : Int) := by omega
   have k2 : (k : Int) < (c.length : Int) := by omega
   have d0 := hx.cell hcn
   by_cases hlk : k < ks.length
   ·have t2 : decide ((ks.length : Int) ≤ (k : Int)) = false := by simpa using hlk
    obtain ⟨lb, lo, p, rfl, hp, hp0, hp1⟩ := HL3.out k hlk
    have k3 : (k : Int) < (ks.length : Int) := by omega
    cases hin : inB n 0 600 with
    | false =>
     have HR := Lib.hid (okTake_bad (ks := ks) hn.out (show badTake n = true by unfold badTake; rw [hin]; rfl))
     clear hs hn hcn hp hp0 hp1
     by_cases hn0 : n < 0
     ·have t3 : decide (n < 0) = true := by simpa using hn0
      clear hin
      go_wp2
      try simp only [Exit.inBlock, Exit.then]
      refine bodyPost_ret (results_cell_row2 rfl _ _ w.heap.size _ _ _ _ rfl (store3z h4.out _ _ _) Tryz.underlying52 rfl (by kernel_rfl)) rfl ?_
      exact ⟨((hx.setCell (Nat.le_refl _) _).setCell (Nat.le_refl _) _).setCell (Nat.le_refl _) _, .inl ⟨HR.out, rfl⟩⟩
     ·have t3 : decide (n < 0) = false := by simpa using hn0
      have t4 : decide ((600 : Int) < n) = true := by unfold inB at hin; simp at hin ⊢; omega
      clear hin
      go_wp2
      try simp only [Exit.inBlock, Exit.then]
      refine bodyPost_ret (results_cell_row2 rfl _ _ w.heap.size _ _ _ _ rfl (store3z h4.out _ _ _) Tryz.underlying52 rfl (by kernel_rfl)) rfl ?_
      exact ⟨((hx.setCell (Nat.le_refl _) _).setCell (Nat.le_refl _) _).setCell (Nat.le_refl _) _, .inl ⟨HR.out, rfl⟩⟩
    | true =>
     obtain ⟨n0, n1⟩ := inB_iff.1 hin
     have t3 : decide (n < 0) = false := by simp; omega
     have t4 : decide ((600 : Int) < n) = false := by simp; omega
     obtain ⟨hs0, hs1, hs2, hs3⟩ := hs.out
     have hbd := take_bd (all_in hk hs0)
     have hbh := holds_bd HK.out hk' (all_in hk hs0)
     rw [← hs1] at hbd
     rw [← hs2, ← hs3] at hbh
     have hkn := HK.out.n4
     have hpk := HK.out.all p (List.mem_of_getElem? hp.out)
     have m1 := mul_bd (B := 144) n0 n1 (by omega : 0 ≤ p.1) (by omega)
     have m2 := mul_bd (B := 1000) n0 n1 (by omega : 0 ≤ p.2) (by omega)
     obtain ⟨e1, e2⟩ := holds_take hp.out hn.out
     have e3 := sum_takeK hn.out
     have HW6 := Lib.hid (IntWalk.i64_in (S + n) (by omega))
     have HW18 := Lib.hid (IntWalk.i64_in (n * p.2) (by omega))
     have HW19 := Lib.hid (IntWalk.i64_in (PR + n * p.2) (by omega))
     have HW30 := Lib.hid (IntWalk.i64_in (n * p.1) (by omega))
     have HW31 := Lib.hid (IntWalk.i64_in (HO + n * p.1) (by omega))
     have HS := Lib.hid (show (c.take (k + 1)).any badTake = false ∧ S + n = (c.take (k + 1)).sum ∧ PR + n * p.2 = priceOf ks (c.take (k + 1)) ∧ HO + n * p.1 = holdsOf ks (c.take (k + 1)) from ⟨any_take hn.out hs0 (by unfold badTake; rw [hin]; rfl), by rw [e3, ← hs1], by rw [e2, ← hs2], by rw [e1, ← hs3]⟩)
     have HCN := Lib.hid hcn
     have HP0 := Lib.hid hp0
     have HP1 := Lib.hid hp1
     clear hs hs0 hs1 hs2 hs3 hbd hbh hkn hpk m1 m2 e1 e2 e3 hn hp hcn hp0 hp1 hin n0 n1
     go_upto_region 8 with fail
     refine wp_region_noPanic ?_
     refine wp_region_any (by kernel_rfl) (wpAny_of_two (S := (fun w' : World => Ext w w')) (T := (fun w' : World => w'.cell? ⟨w.heap.size + 1, 1, none⟩ = some (.int .i64 S) ∧ w'.cell? ⟨w.heap.size + 1, 2, none⟩ = some (.int .i64 PR))) (zs := [0, 2, 3, 4, 5, 7, 9, 10, 11, 12, 13, 14, 15, 16, 17, 18, 19, 20, 21, 22, 23, 24, 25, 26, 27, 28, 29, 30, 31, 32, 33, 34, 35, 36]) _ _ _ _ ?_)
     change wpTwo _ _ _ _ _ _ _ _ _ _ wr.drew
     have hS := (show Ext w wr.drew from hx.drew)
     have hT0 := (And.intro (show wr.drew.cell? ⟨w.heap.size + 1, 1, none⟩ = some (.int .i64 S) from y1) (show wr.drew.cell? ⟨w.heap.size + 1, 2, none⟩ = some (.int .i64 PR) from y2))
     refine two_takeS (i := 0) (d := some 37) (v := ?_) (by kernel_rfl) (by rfl) (by kernel_rfl) (by kernel_rfl) (by kernel_rfl) (fun _ _ _ h => h) (fun o ho => ?_) hS ?_
     rotate_left
     · simp only [List.getElem?_toArray, List.getElem?_cons_zero, Option.some.injEq] at ho
       subst ho
       refine ⟨by rfl, fun w' hSw => ?_⟩
       (try dsimp only at hSw)
       go_simp
       try with_reducible rfl
     try simp only [Act.put, List.setIfInBounds_toArray, List.set_cons_zero, List.set_cons_succ]
     refine two_takeS (i := 2) (d := some 39) (v := ?_) (by kernel_rfl) (by rfl) (by kernel_rfl) (by kernel_rfl) (by kernel_rfl) (fun _ _ _ h => h) (fun o ho => ?_) hS ?_
     rotate_left
     · simp only [List.getElem?_toArray, List.getElem?_cons_zero, List.getElem?_cons_succ, Option.some.injEq] at ho
       subst ho
       refine ⟨by rfl, fun w' hSw => ?_⟩
       (try dsimp only at hSw)
       go_simp
       try with_reducible rfl
     try simp only [Act.put, List.setIfInBounds_toArray, List.set_cons_zero, List.set_cons_succ]
     refine two_takeS (i := 3) (d := some 40) (v := ?_) (by kernel_rfl) (by rfl) (by kernel_rfl) (by kernel_rfl) (by kernel_rfl) (fun _ _ _ h => h) (fun o ho => ?_) hS ?_
     rotate_left
     · simp only [List.getElem?_toArray, List.getElem?_cons_zero, List.getElem?_cons_succ, Option.some.injEq] at ho
       subst ho
       refine ⟨by rfl, fun w' hSw => ?_⟩
       (try dsimp only at hSw)
       go_simp
       try with_reducible rfl
     try simp only [Act.put, List.setIfInBounds_toArray, List.set_cons_zero, List.set_cons_succ]
     refine two_takeS (i := 4) (d := some 41) (v := ?_) (by kernel_rfl) (by rfl) (by kernel_rfl) (by kernel_rfl) (by kernel_rfl) (fun _ _ _ h => h) (fun o ho => ?_) hS ?_
     rotate_left
     · simp only [List.getElem?_toArray, List.getElem?_cons_zero, List.getElem?_cons_succ, Option.some.injEq] at ho
       subst ho
       refine ⟨by rfl, fun w' hSw => ?_⟩
       (try dsimp only at hSw)
       go_simp
       try with_reducible rfl
     try simp only [Act.put, List.setIfInBounds_toArray, List.set_cons_zero, List.set_cons_succ]
     refine two_takeS (i := 5) (d := some 42) (v := ?_) (by kernel_rfl) (by rfl) (by kernel_rfl) (by kernel_rfl) (by kernel_rfl) (fun _ _ _ h => h) (fun o ho => ?_) hS ?_
     rotate_left
     · simp only [List.getElem?_toArray, List.getElem?_cons_zero, List.getElem?_cons_succ, Option.some.injEq] at ho
       subst ho
       refine ⟨by rfl, fun w' hSw => ?_⟩
       have d9 := hSw.cell HCN.out
       clear hSw
       go_simp
       try with_reducible rfl
     try simp only [Act.put, List.setIfInBounds_toArray, List.set_cons_zero, List.set_cons_succ]
     refine two_takeS (i := 7) (d := some 44) (v := ?_) (by kernel_rfl) (by rfl) (by kernel_rfl) (by kernel_rfl) (by kernel_rfl) (fun _ _ _ h => h) (fun o ho => ?_) hS ?_
     rotate_left
     · simp only [List.getElem?_toArray, List.getElem?_cons_zero, List.getElem?_cons_succ, Option.some.injEq] at ho
       subst ho
       refine ⟨by rfl, fun w' hSw => ?_⟩
       (try dsimp only at hSw)
       go_simp
       try with_reducible rfl
     try simp only [Act.put, List.setIfInBounds_toArray, List.set_cons_zero, List.set_cons_succ]
     refine two_takeS (i := 9) (d := some 46) (v := ?_) (by kernel_rfl) (by rfl) (by kernel_rfl) (by kernel_rfl) (by kernel_rfl) (fun _ _ _ h => h) (fun o ho => ?_) hS ?_
     rotate_left
     · simp only [List.getElem?_toArray, List.getElem?_cons_zero, List.getElem?_cons_succ, Option.some.injEq] at ho
       subst ho
       refine ⟨by rfl, fun w' hSw => ?_⟩
       (try dsimp only at hSw)
       go_simp
       try with_reducible rfl
     try simp only [Act.put, List.setIfInBounds_toArray, List.set_cons_zero, List.set_cons_succ]
     refine two_takeS (i := 10) (d := some 47) (v := ?_) (by kernel_rfl) (by rfl) (by kernel_rfl) (by kernel_rfl) (by kernel_rfl) (fun _ _ _ h => h) (fun o ho => ?_) hS ?_
     rotate_left
     · simp only [List.getElem?_toArray, List.getElem?_cons_zero, List.getElem?_cons_succ, Option.some.injEq] at ho
       subst ho
       refine ⟨by rfl, fun w' hSw => ?_⟩
       (try dsimp only at hSw)
       go_simp
       try with_reducible rfl
     try simp only [Act.put, List.setIfInBounds_toArray, List.set_cons_zero, List.set_cons_succ]
     refine two_takeS (i := 11) (d := some 48) (v := ?_) (by kernel_rfl) (by rfl) (by kernel_rfl) (by kernel_rfl) (by kernel_rfl) (fun _ _ _ h => h) (fun o ho => ?_) hS ?_
     rotate_left
     · simp only [List.getElem?_toArray, List.getElem?_cons_zero, List.getElem?_cons_succ, Option.some.injEq] at ho
       subst ho
       refine ⟨by rfl, fun w' hSw => ?_⟩
       (try dsimp only at hSw)
       go_simp
       try with_reducible rfl
     try simp only [Act.put, List.setIfInBounds_toArray, List.set_cons_zero, List.set_cons_succ]
     refine two_takeS (i := 12) (d := some 49) (v := ?_) (by kernel_rfl) (by rfl) (by kernel_rfl) (by kernel_rfl) (by kernel_rfl) (fun _ _ _ h => h) (fun o ho => ?_) hS ?_
     rotate_left
     · simp only [List.getElem?_toArray, List.getElem?_cons_zero, List.getElem?_cons_succ, Option.some.injEq] at ho
       subst ho
       refine ⟨by rfl, fun w' hSw => ?_⟩
       have d9 := hSw.cell HCN.out
       clear hSw
       go_simp
       try with_reducible rfl
     try simp only [Act.put, List.setIfInBounds_toArray, List.set_cons_zero, List.set_cons_succ]
     refine two_takeS (i := 13) (d := some 50) (v := ?_) (by kernel_rfl) (by rfl) (by kernel_rfl) (by kernel_rfl) (by kernel_rfl) (fun _ _ _ h => h) (fun o ho => ?_) hS ?_
     rotate_left
     · simp only [List.getElem?_toArray, List.getElem?_cons_zero, List.getElem?_cons_succ, Option.some.injEq] at ho
       subst ho
       refine ⟨by rfl, fun w' hSw => ?_⟩
       (try dsimp only at hSw)
       go_simp
       try with_reducible rfl
     try simp only [Act.put, List.setIfInBounds_toArray, List.set_cons_zero, List.set_cons_succ]
     refine two_takeS (i := 14) (d := some 51) (v := ?_) (by kernel_rfl) (by rfl) (by kernel_rfl) (by kernel_rfl) (by kernel_rfl) (fun _ _ _ h => h) (fun o ho => ?_) hS ?_
     rotate_left
     · simp only [List.getElem?_toArray, List.getElem?_cons_zero, List.getElem?_cons_succ, Option.some.injEq] at ho
       subst ho
       refine ⟨by rfl, fun w' hSw => ?_⟩
       (try dsimp only at hSw)
       go_simp
       try with_reducible rfl
     try simp only [Act.put, List.setIfInBounds_toArray, List.set_cons_zero, List.set_cons_succ]
     refine two_takeS (i := 15) (d := some 52) (v := ?_) (by kernel_rfl) (by rfl) (by kernel_rfl) (by kernel_rfl) (by kernel_rfl) (fun _ _ _ h => h) (fun o ho => ?_) hS ?_
     rotate_left
     · simp only [List.getElem?_toArray, List.getElem?_cons_zero, List.getElem?_cons_succ, Option.some.injEq] at ho
       subst ho
       refine ⟨by rfl, fun w' hSw => ?_⟩
       (try dsimp only at hSw)
       go_simp
       try with_reducible rfl
     try simp only [Act.put, List.setIfInBounds_toArray, List.set_cons_zero, List.set_cons_succ]
     refine two_takeS (i := 16) (d := some 53) (v := ?_) (by kernel_rfl) (by rfl) (by kernel_rfl) (by kernel_rfl) (by kernel_rfl) (fun _ _ _ h => h) (fun o ho => ?_) hS ?_
     rotate_left
     · simp only [List.getElem?_toArray, List.getElem?_cons_zero, List.getElem?_cons_succ, Option.some.injEq] at ho
       subst ho
       refine ⟨by rfl, fun w' hSw => ?_⟩
       (try dsimp only at hSw)
       go_simp
       try with_reducible rfl
     try simp only [Act.put, List.setIfInBounds_toArray, List.set_cons_zero, List.set_cons_succ]
     refine two_takeS (i := 17) (d := some 54) (v := ?_) (by kernel_rfl) (by rfl) (by kernel_rfl) (by kernel_rfl) (by kernel_rfl) (fun _ _ _ h => h) (fun o ho => ?_) hS ?_
     rotate_left
     · simp only [List.getElem?_toArray, List.getElem?_cons_zero, List.getElem?_cons_succ, Option.some.injEq] at ho
       subst ho
       refine ⟨by rfl, fun w' hSw => ?_⟩
       have d9 := hSw.cell HP1.out
       clear hSw
       go_simp
       try with_reducible rfl
     try simp only [Act.put, List.setIfInBounds_toArray, List.set_cons_zero, List.set_cons_succ]
     refine two_takeS (i := 18) (d := some 55) (v := ?_) (by kernel_rfl) (by rfl) (by kernel_rfl) (by kernel_rfl) (by kernel_rfl) (fun _ _ _ h => h) (fun o ho => ?_) hS ?_
     rotate_left
     · simp only [List.getElem?_toArray, List.getElem?_cons_zero, List.getElem?_cons_succ, Option.some.injEq] at ho
       subst ho
       refine ⟨by rfl, fun w' hSw => ?_⟩
       go_simp
       try rw [HW18.out]
       try with_reducible rfl
     try simp only [Act.put, List.setIfInBounds_toArray, List.set_cons_zero, List.set_cons_succ]
     refine two_takeS (i := 20) (d := some 57) (v := ?_) (by kernel_rfl) (by rfl) (by kernel_rfl) (by kernel_rfl) (by kernel_rfl) (fun _ _ _ h => h) (fun o ho => ?_) hS ?_
     rotate_left
     · simp only [List.getElem?_toArray, List.getElem?_cons_zero, List.getElem?_cons_succ, Option.some.injEq] at ho
       subst ho
       refine ⟨by rfl, fun w' hSw => ?_⟩
       (try dsimp only at hSw)
       go_simp
       try with_reducible rfl
     try simp only [Act.put, List.setIfInBounds_toArray, List.set_cons_zero, List.set_cons_succ]
     refine two_takeS (i := 21) (d := some 58) (v := ?_) (by kernel_rfl) (by rfl) (by kernel_rfl) (by kernel_rfl) (by kernel_rfl) (fun _ _ _ h => h) (fun o ho => ?_) hS ?_
     rotate_left
     · simp only [List.getElem?_toArray, List.getElem?_cons_zero, List.getElem?_cons_succ, Option.some.injEq] at ho
       subst ho
       refine ⟨by rfl, fun w' hSw => ?_⟩
       (try dsimp only at hSw)
       go_simp
       try with_reducible rfl
     try simp only [Act.put, List.setIfInBounds_toArray, List.set_cons_zero, List.set_cons_succ]
     refine two_takeS (i := 22) (d := some 59) (v := ?_) (by kernel_rfl) (by rfl) (by kernel_rfl) (by kernel_rfl) (by kernel_rfl) (fun _ _ _ h => h) (fun o ho => ?_) hS ?_
     rotate_left
     · simp only [List.getElem?_toArray, List.getElem?_cons_zero, List.getElem?_cons_succ, Option.some.injEq] at ho
       subst ho
       refine ⟨by rfl, fun w' hSw => ?_⟩
       (try dsimp only at hSw)
       go_simp
       try with_reducible rfl
     try simp only [Act.put, List.setIfInBounds_toArray, List.set_cons_zero, List.set_cons_succ]
     refine two_takeS (i := 23) (d := some 60) (v := ?_) (by kernel_rfl) (by rfl) (by kernel_rfl) (by kernel_rfl) (by kernel_rfl) (fun _ _ _ h => h) (fun o ho => ?_) hS ?_
     rotate_left
     · simp only [List.getElem?_toArray, List.getElem?_cons_zero, List.getElem?_cons_succ, Option.some.injEq] at ho
       subst ho
       refine ⟨by rfl, fun w' hSw => ?_⟩
       (try dsimp only at hSw)
       go_simp
       try with_reducible rfl
     try simp only [Act.put, List.setIfInBounds_toArray, List.set_cons_zero, List.set_cons_succ]
     refine two_takeS (i := 24) (d := some 61) (v := ?_) (by kernel_rfl) (by rfl) (by kernel_rfl) (by kernel_rfl) (by kernel_rfl) (fun _ _ _ h => h) (fun o ho => ?_) hS ?_
     rotate_left
     · simp only [List.getElem?_toArray, List.getElem?_cons_zero, List.getElem?_cons_succ, Option.some.injEq] at ho
       subst ho
       refine ⟨by rfl, fun w' hSw => ?_⟩
       have d9 := hSw.cell HCN.out
       clear hSw
       go_simp
       try with_reducible rfl
     try simp only [Act.put, List.setIfInBounds_toArray, List.set_cons_zero, List.set_cons_succ]
     refine two_takeS (i := 25) (d := some 62) (v := ?_) (by kernel_rfl) (by rfl) (by kernel_rfl) (by kernel_rfl) (by kernel_rfl) (fun _ _ _ h => h) (fun o ho => ?_) hS ?_
     rotate_left
     · simp only [List.getElem?_toArray, List.getElem?_cons_zero, List.getElem?_cons_succ, Option.some.injEq] at ho
       subst ho
       refine ⟨by rfl, fun w' hSw => ?_⟩
       (try dsimp only at hSw)
       go_simp
       try with_reducible rfl
     try simp only [Act.put, List.setIfInBounds_toArray, List.set_cons_zero, List.set_cons_succ]
     refine two_takeS (i := 26) (d := some 63) (v := ?_) (by kernel_rfl) (by rfl) (by kernel_rfl) (by kernel_rfl) (by kernel_rfl) (fun _ _ _ h => h) (fun o ho => ?_) hS ?_
     rotate_left
     · simp only [List.getElem?_toArray, List.getElem?_cons_zero, List.getElem?_cons_succ, Option.some.injEq] at ho
       subst ho
       refine ⟨by rfl, fun w' hSw => ?_⟩
       (try dsimp only at hSw)
       go_simp
       try with_reducible rfl
     try simp only [Act.put, List.setIfInBounds_toArray, List.set_cons_zero, List.set_cons_succ]
     refine two_takeS (i := 27) (d := some 64) (v := ?_) (by kernel_rfl) (by rfl) (by kernel_rfl) (by kernel_rfl) (by kernel_rfl) (fun _ _ _ h => h) (fun o ho => ?_) hS ?_
     rotate_left
     · simp only [List.getElem?_toArray, List.getElem?_cons_zero, List.getElem?_cons_succ, Option.some.injEq] at ho
       subst ho
       refine ⟨by rfl, fun w' hSw => ?_⟩
       (try dsimp only at hSw)
       go_simp
       try with_reducible rfl
     try simp only [Act.put, List.setIfInBounds_toArray, List.set_cons_zero, List.set_cons_succ]
     refine two_takeS (i := 28) (d := some 65) (v := ?_) (by kernel_rfl) (by rfl) (by kernel_rfl) (by kernel_rfl) (by kernel_rfl) (fun _ _ _ h => h) (fun o ho => ?_) hS ?_
     rotate_left
     · simp only [List.getElem?_toArray, List.getElem?_cons_zero, List.getElem?_cons_succ, Option.some.injEq] at ho
       subst ho
       refine ⟨by rfl, fun w' hSw => ?_⟩
       (try dsimp only at hSw)
       go_simp
       try with_reducible rfl
     try simp only [Act.put, List.setIfInBounds_toArray, List.set_cons_zero, List.set_cons_succ]
     refine two_takeS (i := 29) (d := some 66) (v := ?_) (by kernel_rfl) (by rfl) (by kernel_rfl) (by kernel_rfl) (by kernel_rfl) (fun _ _ _ h => h) (fun o ho => ?_) hS ?_
     rotate_left
     · simp only [List.getElem?_toArray, List.getElem?_cons_zero, List.getElem?_cons_succ, Option.some.injEq] at ho
       subst ho
       refine ⟨by rfl, fun w' hSw => ?_⟩
       have d9 := hSw.cell HP0.out
       clear hSw
       go_simp
       try with_reducible rfl
     try simp only [Act.put, List.setIfInBounds_toArray, List.set_cons_zero, List.set_cons_succ]
     refine two_takeS (i := 30) (d := some 67) (v := ?_) (by kernel_rfl) (by rfl) (by kernel_rfl) (by kernel_rfl) (by kernel_rfl) (fun _ _ _ h => h) (fun o ho => ?_) hS ?_
     rotate_left
     · simp only [List.getElem?_toArray, List.getElem?_cons_zero, List.getElem?_cons_succ, Option.some.injEq] at ho
       subst ho
       refine ⟨by rfl, fun w' hSw => ?_⟩
       go_simp
       try rw [HW30.out]
       try with_reducible rfl
     try simp only [Act.put, List.setIfInBounds_toArray, List.set_cons_zero, List.set_cons_succ]
     refine two_takeS (i := 31) (d := some 68) (v := ?_) (by kernel_rfl) (by rfl) (by kernel_rfl) (by kernel_rfl) (by kernel_rfl) (fun _ _ _ h => h) (fun o ho => ?_) hS ?_
     rotate_left
     · simp only [List.getElem?_toArray, List.getElem?_cons_zero, List.getElem?_cons_succ, Option.some.injEq] at ho
       subst ho
       refine ⟨by rfl, fun w' hSw => ?_⟩
       go_simp
       try rw [HW31.out]
       try with_reducible rfl
     try simp only [Act.put, List.setIfInBounds_toArray, List.set_cons_zero, List.set_cons_succ]
     refine two_takeT (i := 8) (d := some 45) (v := ?_) (by kernel_rfl) (by kernel_rfl) (by kernel_rfl) (by kernel_rfl) (by kernel_rfl) (fun _ _ _ h => h) (fun o ho => ?_) hS hT0 ?_
     rotate_left
     · simp only [List.getElem?_toArray, List.getElem?_cons_zero, List.getElem?_cons_succ, Option.some.injEq] at ho
       subst ho
       refine ⟨by rfl, fun w' hSw => ?_⟩
       obtain ⟨e1, e2⟩ := hSw
       go_simp
       try with_reducible rfl
     try simp only [Act.put, List.setIfInBounds_toArray, List.set_cons_zero, List.set_cons_succ]
     refine two_takeS (i := 19) (d := some 56) (v := ?_) (by kernel_rfl) (by rfl) (by kernel_rfl) (by kernel_rfl) (by kernel_rfl) (fun _ _ _ h => h) (fun o ho => ?_) hS ?_
     rotate_left
     · simp only [List.getElem?_toArray, List.getElem?_cons_zero, List.getElem?_cons_succ, Option.some.injEq] at ho
       subst ho
       refine ⟨by rfl, fun w' hSw => ?_⟩
       go_simp
       try rw [HW19.out]
       try with_reducible rfl
     try simp only [Act.put, List.setIfInBounds_toArray, List.set_cons_zero, List.set_cons_succ]
     refine two_takeT (i := 1) (d := some 38) (v := ?_) (by kernel_rfl) (by kernel_rfl) (by kernel_rfl) (by kernel_rfl) (by kernel_rfl) (fun _ _ _ h => h) (fun o ho => ?_) hS hT0 ?_
     rotate_left
     · simp only [List.getElem?_toArray, List.getElem?_cons_zero, List.getElem?_cons_succ, Option.some.injEq] at ho
       subst ho
       refine ⟨by rfl, fun w' hSw => ?_⟩
       obtain ⟨e1, e2⟩ := hSw
       go_simp
       try with_reducible rfl
     try simp only [Act.put, List.setIfInBounds_toArray, List.set_cons_zero, List.set_cons_succ]
     refine two_takeT (i := 6) (d := some 43) (v := ?_) (by kernel_rfl) (by kernel_rfl) (by kernel_rfl) (by kernel_rfl) (by kernel_rfl) (fun _ _ _ h => h) (fun o ho => ?_) hS hT0 ?_
     rotate_left
     · simp only [List.getElem?_toArray, List.getElem?_cons_zero, List.getElem?_cons_succ, Option.some.injEq] at ho
       subst ho
       refine ⟨by rfl, fun w' hSw => ?_⟩
       go_simp
       try rw [HW6.out]
       try with_reducible rfl
     try simp only [Act.put, List.setIfInBounds_toArray, List.set_cons_zero, List.set_cons_succ]
     refine two_takeS (i := 32) (d := some 69) (v := ?_) (by kernel_rfl) (by rfl) (by kernel_rfl) (by kernel_rfl) (by kernel_rfl) (fun _ _ _ h => h) (fun o ho => ?_) hS ?_
     rotate_left
     · simp only [List.getElem?_toArray, List.getElem?_cons_zero, List.getElem?_cons_succ, Option.some.injEq] at ho
       subst ho
       refine ⟨by rfl, fun w' hSw => ?_⟩
       (try dsimp only at hSw)
       go_simp
       try with_reducible rfl
     try simp only [Act.put, List.setIfInBounds_toArray, List.set_cons_zero, List.set_cons_succ]
     refine two_ready (rs := [33]) (by kernel_rfl) (by simp) ?_
     refine two_step (i := 33) (by kernel_rfl) (fun o ho K' hK => ?_) ?_
     · simp only [List.getElem?_toArray, List.getElem?_cons_zero, List.getElem?_cons_succ, Option.some.injEq] at ho
       subst ho
       go_simp
       refine hK.out _ _ ?_ ?_ (fun hS hT => ?_)
       · exact Ext.setCell (p := ⟨w.heap.size + 1, 1, none⟩) hS (Nat.le_succ _) _
       · intro hc; cases hc
       clear hK K' hT
       try simp only [Act.put, List.setIfInBounds_toArray, List.set_cons_zero, List.set_cons_succ]
       refine two_takeS (i := 34) (d := some 70) (v := ?_) (by kernel_rfl) (by rfl) (by kernel_rfl) (by kernel_rfl) (by kernel_rfl) (fun _ _ _ h => h) (fun o ho => ?_) hS ?_
       rotate_left
       · simp only [List.getElem?_toArray, List.getElem?_cons_zero, List.getElem?_cons_succ, Option.some.injEq] at ho
         subst ho
         refine ⟨by rfl, fun w' hSw => ?_⟩
         (try dsimp only at hSw)
         go_simp
         try with_reducible rfl
       try simp only [Act.put, List.setIfInBounds_toArray, List.set_cons_zero, List.set_cons_succ]
       refine two_ready (rs := [35]) (by kernel_rfl) (by simp) ?_
       refine two_step (i := 35) (by kernel_rfl) (fun o ho K' hK => ?_) ?_
       · simp only [List.getElem?_toArray, List.getElem?_cons_zero, List.getElem?_cons_succ, Option.some.injEq] at ho
         subst ho
         go_simp
         refine hK.out _ _ ?_ ?_ (fun hS hT => ?_)
         · exact Ext.setCell (p := ⟨w.heap.size + 1, 2, none⟩) hS (Nat.le_succ _) _
         · intro hc; cases hc
         clear hK K' hT
         try simp only [Act.put, List.setIfInBounds_toArray, List.set_cons_zero, List.set_cons_succ]
         refine two_ready (rs := [36]) (by kernel_rfl) (by simp) ?_
         refine two_step (i := 36) (by kernel_rfl) (fun o ho K' hK => ?_) ?_
         · simp only [List.getElem?_toArray, List.getElem?_cons_zero, List.getElem?_cons_succ, Option.some.injEq] at ho
           subst ho
           go_simp
           refine hK.out _ _ ?_ ?_ (fun hS hT => ?_)
           · exact hS
           · intro hc; cases hc
           clear hK K' hT
           try simp only [Act.put, List.setIfInBounds_toArray, List.set_cons_zero, List.set_cons_succ]
           refine two_done (by kernel_rfl) ?_ _
           refine NoPanic.normal ?_
           try simp only [List.setIfInBounds_toArray, List.set_cons_zero, List.set_cons_succ]
           clear hS
           obtain ⟨WZ, hWZ⟩ : ∃ WZ, WZ = ((wr.setCell ⟨w.heap.size + 1, 1, none⟩ (.int .i64 (S + n))).setCell ⟨w.heap.size + 1, 2, none⟩ (.int .i64 (PR + n * p.2))).drew := ⟨_, rfl⟩
           have HZ := Lib.hid (show Ext w WZ ∧ WZ.heap[w.heap.size + 1]? = some (.cells #[.slice (some ⟨cb, co, none⟩) c.length cc, .int .i64 (S + n), .int .i64 (PR + n * p.2)] 52) ∧ WZ.heap[w.heap.size]? = some (.cells #[.slice none 0 0, .int .i64 0, .int .i64 0] 52) from by rw [hWZ]; exact ⟨((hx.setCell (p := ⟨w.heap.size + 1, 1, none⟩) (Nat.le_succ _) _).setCell (p := ⟨w.heap.size + 1, 2, none⟩) (Nat.le_succ _) _).drew, cell_addr2 _ _ _ _ _ _ (.int .i64 (PR + n * p.2)) (cell_addr wr _ _ _ _ _ (.int .i64 (S + n)) h6.out), ((Touch.setCell (M := fun i => i = w.heap.size + 1) (a := ⟨w.heap.size + 1, 1, none⟩) (.int .i64 (S + n)) rfl).trans (Touch.setCell (a := ⟨w.heap.size + 1, 2, none⟩) (.int .i64 (PR + n * p.2)) rfl)).keep _ _ h4.out (by omega)⟩)
           rw [← hWZ]
           clear hWZ
           go_wp2
           exact ⟨⟨k + 1, S + n, PR + n * p.2, HO + n * p.1, by omega, by omega, by go_num, rfl, HS.out, HZ.out.1, HZ.out.2.2, HZ.out.2.1⟩, by simp [intOf]; omega⟩
         exact AllTwo.nil
       exact AllTwo.nil
     exact AllTwo.nil
   ·have t2 : decide ((ks.length : Int) ≤ (k : Int)) = true := by simpa using hlk
    have HR : Hid (okTake ks c = false) := by unfold Hid okTake; rw [decide_eq_false (by omega)]; rfl
    clear hs hn hcn
    go_wp2
    try simp only [Exit.inBlock, Exit.then]
    refine bodyPost_ret (results_cell_row2 rfl _ _ w.heap.size _ _ _ _ rfl (store3z h4.out _ _ _) Tryz.underlying52 rfl (by kernel_rfl)) rfl ?_
    exact ⟨((hx.setCell (Nat.le_refl _) _).setCell (Nat.le_refl _) _).setCell (Nat.le_refl _) _, .inl ⟨HR.out, rfl⟩⟩
  ·have t1 : decide ((k : Int) < (c.length : Int)) = false := by simpa using hlt
   have hke : k = c.length := by omega
   obtain ⟨hs0, hs1, hs2, hs3⟩ := hs.out
   rw [List.take_of_length_le (by omega)] at hs0 hs1 hs2 hs3
   have HR : Hid (okTake ks c = true ∧ S = c.sum ∧ PR = priceOf ks c ∧ HO = holdsOf ks c) := ⟨by unfold okTake; rw [hs0, decide_eq_true (by omega)]; rfl, hs1, hs2, hs3⟩
   clear hs hs0 hs1 hs2 hs3 hke
   go_wp2
   try simp only [Exit.inBlock, Exit.then]
   refine bodyPost_ret (results_cell_row2 rfl _ _ w.heap.size _ _ _ _ rfl (store3z h4.out _ _ _) Tryz.underlying52 rfl (by kernel_rfl)) rfl ?_
   obtain ⟨r0, r1, r2, r3⟩ := HR.out
   exact ⟨((hx.setCell (Nat.le_refl _) _).setCell (Nat.le_refl _) _).setCell (Nat.le_refl _) _, .inr ⟨r0, by rw [← r1, ← r2, ← r3]; rfl⟩⟩
end Go.Proofs.YtpebafaigldldaaGreatDoor
