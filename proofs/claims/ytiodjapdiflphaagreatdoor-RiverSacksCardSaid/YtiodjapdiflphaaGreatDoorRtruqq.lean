/- The reference's Weather with what it owns; make as a step; where Truths keeps what it finds. -/
import Derived.Test.YtiodjapdiflphaaGreatDoorRaddq
import Derived.Test.YtiodjapdiflphaaGreatDoorRtwoq
import Derived.Test.YtiodjapdiflphaaGreatDoorRsetq
namespace Go.Proofs.YtiodjapdiflphaaGreatDoor
open Go.RowKit
/-- make, as one step of a region that draws its order. -/
theorem step_make {P : Program} {w : World} {ops : Array Oper} {o : Oper} {a : Act} {K : Act → World → Prop} {Q : Exit → Act → World → Prop} {E' : Prop} (hw : Region.wanted o (yielded ops a.tmps) = true) (l c : Operand) (t : TypeId) (hop : o.op = Op.makeSlice t l c)
  (base : Nat) (e : TypeId) (i : TypeInfo) (z : Value) (size : Nat) (h1 : P.underlying t = some (.slice e)) (h2 : P.info? e = some i) (h3 : i.zero = some z) (h4 : i.size = size)
  (kl kc : IntKind) (L C : Int) (n : Nat) (hl : a.eval l = .int kl L) (hc : a.eval c = .int kc C) (hL : L = (n : Int)) (hC : C = (n : Int)) (b2 : i.bytes * n ≤ 281474976710656) (b3 : n ≤ maxLen) (b4 : base ≤ w.heap.size)
  (hK : ∀ w', w'.ownsRow base e size (.slice (some ⟨w.heap.size, 0, none⟩) n n) n (madeCells z.cells (n * size)).toList → w.grownBy w' none → K (a.put o.dst (.slice (some ⟨w.heap.size, 0, none⟩) n n)) w') :
  if Region.wanted o (yielded ops a.tmps) = true then Oper.wp P o a w K Q else E' := by
 rw [if_pos hw]
 obtain ⟨w', hrun, r1, r2⟩ := run_make_full (P := P) w base t e i z size h1 h2 h3 h4 kl kc n b2 b3 b4
 subst hL
 subst hC
 unfold Oper.wp
 simp [execOp, hop, hl, hc, hrun, Result.andThen]
 exact hK w' r1 r2
/-! ### Rows that are owned, each in a block of its own -/
structure Grid (B : Nat) (W : World) (te ti : TypeId) (size Y : Nat) (tv : Value) (l : List (Nat × Nat)) (xss : List (List Value)) : Prop where
 own : W.ownsRow B te 1 tv l.length (l.map fun p => Value.slice (some ⟨p.1, 0, none⟩) Y p.2)
 len : l.length = xss.length
 each : ∀ (i : Nat) (p : Nat × Nat) (xs : List Value), l[i]? = some p → xss[i]? = some xs → W.ownsRow B ti size (.slice (some ⟨p.1, 0, none⟩) Y p.2) Y xs
 inc : ∀ (i j : Nat) (p q : Nat × Nat), i < j → l[i]? = some p → l[j]? = some q → p.1 < q.1
theorem Grid.nil (B : Nat) (W : World) (te ti : TypeId) (size Y : Nat) : Grid B W te ti size Y (.slice none 0 0) [] [] :=
 ⟨World.ownsRow_nil _ _ _ _, rfl, fun i p xs h => by simp at h, fun i j p q _ h => by simp at h⟩
theorem Grid.ext {B : Nat} {W W' : World} {te ti : TypeId} {size Y : Nat} {tv : Value} {l : List (Nat × Nat)} {xss : List (List Value)} (h : Grid B W te ti size Y tv l xss) (k : Ext W W') : Grid B W' te ti size Y tv l xss :=
 ⟨owns_ext h.own k, h.len, fun i p xs h1 h2 => owns_ext (h.each i p xs h1 h2) k, h.inc⟩
theorem owns_form {w : World} {base : Nat} {e : TypeId} {size : Nat} {v : Value} {n : Nat} {xs : List Value} (h : w.ownsRow base e size v n xs) (hn : 0 < n) : ∃ g cap, v = .slice (some ⟨g, 0, none⟩) n cap ∧ base ≤ g ∧ g < w.heap.size := by
 rcases h.2 with ⟨_, h0⟩ | ⟨g, cap, cur, hv, hb, hg, _⟩
 ·omega
 ·exact ⟨g, cap, hv, hb, (Array.getElem?_eq_some_iff.1 hg).1⟩
theorem owns_less {w : World} {base base' : Nat} {e : TypeId} {size : Nat} {v : Value} {n : Nat} {xs : List Value} (h : w.ownsRow base e size v n xs) (hb : base' ≤ base) : w.ownsRow base' e size v n xs := by
 refine ⟨h.1, h.2.imp id ?_⟩
 rintro ⟨g, cap, cur, hv, h1, h2⟩
 exact ⟨g, cap, cur, hv, Nat.le_trans hb h1, h2⟩
theorem owns_apart {W : World} {b1 b2 s1 s2 n1 n2 g c : Nat} {e1 e2 : TypeId} {v : Value} {x1 x2 : List Value} (h1 : W.ownsRow b1 e1 s1 v n1 x1) (h2 : W.ownsRow b2 e2 s2 (.slice (some ⟨g, 0, none⟩) n2 c) n2 x2) (hne : e1 ≠ e2) : v.ownBlock ≠ some g := by
 intro e
 rcases h1.2 with ⟨rfl, _⟩ | ⟨g1, c1, cur1, rfl, _, k1, _⟩
 ·cases e
 ·rcases h2.2 with ⟨h, _⟩ | ⟨g2, c2, cur2, h, _, k2, _⟩
  ·cases h
  ·cases h
   cases (show some g1 = some g from e)
   rw [k1] at k2
   cases k2
   exact hne rfl
theorem Grid.push {B : Nat} {W W1 w5 : World} {te ti : TypeId} {size Y g c g5 cap : Nat} {tv : Value} {l : List (Nat × Nat)} {xss : List (List Value)} {xs : List Value} {o : Obj} (h : Grid B W te ti size Y tv l xss) (hne : te ≠ ti) (hx : Ext W W1)
  (hu : W1.ownsRow B ti size (.slice (some ⟨g, 0, none⟩) Y c) Y xs) (hg : W.heap.size ≤ g)
  (own5 : w5.ownsRow B te 1 (.slice (some ⟨g5, 0, none⟩) (l.length + 1) cap) (l.length + 1) ((l.map fun p => Value.slice (some ⟨p.1, 0, none⟩) Y p.2) ++ [.slice (some ⟨g, 0, none⟩) Y c])) (hgr : (W1.alloc o).grownBy w5 tv.ownBlock) :
  Grid B w5 te ti size Y (.slice (some ⟨g5, 0, none⟩) (l.length + 1) cap) (l ++ [(g, c)]) (xss ++ [xs]) := by
 refine ⟨by simpa using own5, by simp [h.len], fun i p ys hi hys => ?_, fun i j p q hij hi hj => ?_⟩
 ·rcases Nat.lt_or_ge i l.length with hlt | hge
  ·rw [List.getElem?_append_left hlt] at hi
   rw [List.getElem?_append_left (by rw [← h.len]; exact hlt)] at hys
   have h1 := h.each i p ys hi hys
   exact ((owns_ext h1 hx).alloc o).kept hgr (.inr (fun e => owns_apart h.own h1 hne e.symm))
  ·rw [List.getElem?_append_right hge] at hi
   rw [List.getElem?_append_right (by rw [← h.len]; exact hge), ← h.len] at hys
   obtain ⟨k, hk⟩ : ∃ k, i - l.length = k := ⟨_, rfl⟩
   rw [hk] at hi hys
   cases k with
   | succ k => simp at hi
   | zero =>
    cases hi
    cases hys
    refine (hu.alloc o).kept hgr (.inr (fun e => ?_))
    have := (World.ownsRow.lt h.own g e.symm).2
    omega
 ·rcases Nat.lt_or_ge j l.length with hlt | hge
  ·rw [List.getElem?_append_left hlt] at hj
   rw [List.getElem?_append_left (by omega)] at hi
   exact h.inc i j p q hij hi hj
  ·rw [List.getElem?_append_right hge] at hj
   obtain ⟨k, hk⟩ : ∃ k, j - l.length = k := ⟨_, rfl⟩
   rw [hk] at hj
   cases k with
   | succ k => simp at hj
   | zero =>
    cases hj
    have hlt : i < l.length := by omega
    rw [List.getElem?_append_left hlt] at hi
    have h1 := h.each i p _ hi (List.getElem?_eq_getElem (by rw [← h.len]; exact hlt))
    have := (World.ownsRow.lt h1 p.1 rfl).2
    show p.1 < g
    omega
theorem Grid.row {B : Nat} {W : World} {te ti : TypeId} {size Y : Nat} {tv : Value} {l : List (Nat × Nat)} {xss : List (List Value)} (h : Grid B W te ti size Y tv l xss) {i : Nat} (hi : i < l.length) :
  ∃ xs, xss[i]? = some xs ∧ W.ownsRow B ti size (.slice (some ⟨(l.getD i (0, 0)).1, 0, none⟩) Y (l.getD i (0, 0)).2) Y xs := by
 have e : l[i]? = some (l.getD i (0, 0)) := by rw [List.getD_eq_getElem?_getD, List.getElem?_eq_getElem hi]; rfl
 exact ⟨_, List.getElem?_eq_getElem (by rw [← h.len]; exact hi), h.each i _ _ e (List.getElem?_eq_getElem (by rw [← h.len]; exact hi))⟩
theorem Grid.lt {B : Nat} {W : World} {te ti : TypeId} {size Y : Nat} {tv : Value} {l : List (Nat × Nat)} {xss : List (List Value)} (h : Grid B W te ti size Y tv l xss) {i j : Nat} (hij : i < j) (hj : j < l.length) : (l.getD i (0, 0)).1 < (l.getD j (0, 0)).1 :=
 h.inc i j _ _ hij (by rw [List.getD_eq_getElem?_getD, List.getElem?_eq_getElem (by omega)]; rfl) (by rw [List.getD_eq_getElem?_getD, List.getElem?_eq_getElem hj]; rfl)
theorem Grid.inj {B : Nat} {W : World} {te ti : TypeId} {size Y : Nat} {tv : Value} {l : List (Nat × Nat)} {xss : List (List Value)} (h : Grid B W te ti size Y tv l xss) {i j : Nat} (hi : i < l.length) (hj : j < l.length) (e : (l.getD i (0, 0)).1 = (l.getD j (0, 0)).1) : i = j := by
 rcases Nat.lt_or_ge i j with k | k
 ·have := h.lt k hj; omega
 ·rcases Nat.lt_or_ge j i with k' | k'
  ·have := h.lt k' hi; omega
  ·omega
/-! ### The reference's Weather, once more -/
set_option maxRecDepth 100000 in
set_option maxHeartbeats 4000000 in
theorem rweather_own (v : Value) (b : Book) (Y : Nat) (w : World) (hb : BookAt w v b) (hB : BookB b) (hY : b.years = Y) :
  Calls Tryz.prog 42 #[v] w fun e w' => ∃ wb wk l, e = .returned (.slice (some ⟨wb, 0, none⟩) b.rivers.length wk) ∧ Hid (Grid (w.heap.size + 1) w' 60 52 2 Y (.slice (some ⟨wb, 0, none⟩) b.rivers.length wk) l (b.rivers.map fun R => R.grow.flatMap pairC)) ∧ Ext w w' := by
 obtain ⟨ra, rc, rfl, hr⟩ := hb.slice
 obtain ⟨_, _, hv, r1, r2, r3⟩ := hr.open
 cases hv
 have n3 := hB.n2
 have n4 := hB.n1
 have y1 := hB.y1
 have y2 := hB.y2
 have hlen := hB.len
 have HR3 := Lib.hid r3
 have HY := Lib.hid hY
 obtain ⟨W0, hW0⟩ : ∃ W0, W0 = w.alloc (.cells #[.int .i64 b.years, .slice ra b.rivers.length rc] 24) := ⟨_, rfl⟩
 have HX0 := Lib.hid (show Ext w W0 by rw [hW0]; exact (Ext.refl w).alloc _)
 have HZ0 := Lib.hid (show W0.heap.size = w.heap.size + 1 by rw [hW0]; simp)
 have HS := Lib.hid (fun W (h : Ext W0 W) => (h.cell (by rw [hW0]; go_simp) :
  W.cell? ⟨w.heap.size, 1, none⟩ = some (.slice ra b.rivers.length rc)))
 clear hb hr r3 hB hY
 go_enter Tryz.func42, Tryz.ntmps42
 go_upto_region 1 with fail
 rw [← hW0]
 clear hW0
 go_wp2
 go_loopw [3, 4] (fun o i wr => ∃ (k : Nat) (l : List (Nat × Nat)), k ≤ b.rivers.length ∧ i = .int .i64 k ∧ Grid (w.heap.size + 1) wr 60 52 2 Y o l ((b.rivers.map fun R => R.grow.flatMap pairC).take k) ∧ Ext W0 wr) (fun _ i _ => b.rivers.length - (intOf i).toNat)
 case atStart => exact ⟨0, [], Nat.zero_le _, rfl, Grid.nil _ _ _ _ _ _, Ext.refl _⟩
 case round =>
  obtain ⟨k, l, hk, rfl, hrows, hx⟩ := hrel
  have z1 := HS.out _ hx
  by_cases hlt : k < b.rivers.length
  ·have x1 : decide ((k : Int) < (b.rivers.length : Int)) = true := by simpa using hlt
   obtain ⟨rb, ro, gv, R, rfl, hR, d0, d1, d2, hg⟩ := HR3.out k hlt
   have q0 := (HX0.out.trans hx).cell d0
   have hgr := hg.ext (HX0.out.trans hx)
   obtain ⟨ga, gc, rfl, _⟩ := hgr.open
   have hgl := hlen R (List.mem_of_getElem? hR.out)
   have i1 : (0 : Int) ≤ (k : Int) := by omega
   have i2 : (k : Int) < (b.rivers.length : Int) := by omega
   have htk : ((b.rivers.map fun R => R.grow.flatMap pairC).take (k + 1)) = ((b.rivers.map fun R => R.grow.flatMap pairC).take k) ++ [R.grow.flatMap pairC] := by
    rw [List.take_add_one, List.getElem?_map, hR.out]; rfl
   obtain ⟨pa, pc, rfl, _⟩ := RowAt.open (RowAt.of_owns hrows.own)
   have hvl : l.length = k := by rw [hrows.len, List.length_take, List.length_map]; omega
   have HSZ := Lib.hid (show l.length + 1 ≤ maxLen ∧ (l.length + 1) * 24 ≤ 140737488355328 by unfold maxLen; omega)
   have HTK := Lib.hid htk
   have HROW := Lib.hid hrows
   have HVL := Lib.hid hvl
   have HG : Hid (RowAt wr (.slice ga R.grow.length gc) R.grow.length (R.grow.flatMap pairC)) := hgr
   have HGL := Lib.hid (show 0 + R.grow.length ≤ maxLen ∧ (0 + R.grow.length) * 16 ≤ 140737488355328 by unfold maxLen; omega)
   have hgy : R.grow.length = Y := by have h := HY.out; omega
   have hy0 : 0 < R.grow.length := by omega
   have HGY := Lib.hid hgy
   have HY0 := Lib.hid hy0
   have hbz : w.heap.size + 1 ≤ wr.heap.size := by have := hx.size; have := HZ0.out; omega
   clear htk hrows hgr hg d0 d1 d2 hgl hvl hgy hy0
   go_wp2_with (at_builtin; first
    | (refine wpList_append_row E_spans rfl _ _ rfl wr.heap.size rfl (World.ownsRow_nil _ _ _ _) rfl HG.out (pairs_len _) (pairs_one _) ?_ HGL.out.1 HGL.out.2 (Nat.le_refl _); intro u w1 hown1 hgrow1 _; have hx1 : Ext wr w1 := Ext.grown (Ext.refl wr) hgrow1 (fun k hk => by cases hk); simp only [Nat.zero_add, List.nil_append] at hown1; obtain ⟨g1, c1, rfl, hg1, _⟩ := owns_form hown1 HY0.out; rw [HGY.out] at hown1 ⊢; have HO1 := Lib.hid hown1; have HG1 := Lib.hid hg1; clear hown1 hgrow1 hg1)
    | (refine wpList_push_at E_rows rfl _ _ rfl (w.heap.size + 1) rfl (owns_ext HROW.out.own hx1) rfl (by simp) rfl (by simp [Value.oneCell']) ?_ HSZ.out.1 HSZ.out.2 (Nat.le_trans hbz hx1.size); intro g5 cap5 w5 hown5 hext5 hg5 hloc5; have HW := Lib.hid (And.intro (hext5 _ (hx.trans hx1) (Nat.le_of_eq HZ0.out)) (HROW.out.push (by decide) hx1 (owns_less HO1.out hbz) HG1.out hown5 hg5)); clear hown5 hext5 hg5 hloc5))
   exact ⟨⟨k + 1, _, by omega, by go_num, by rw [HTK.out]; exact HW.out.2, HW.out.1⟩, by simp [intOf]; omega⟩
  ·have x1 : decide ((k : Int) < (b.rivers.length : Int)) = false := by simp; omega
   have hkl : k = b.rivers.length := by omega
   rw [hkl, List.take_of_length_le (by simp)] at hrows
   have hll : l.length = b.rivers.length := by rw [hrows.len, List.length_map]
   obtain ⟨wb, wk, rfl, _, _⟩ := owns_form hrows.own (by omega)
   rw [hll] at hrows ⊢
   have HR := Lib.hid hrows
   clear hrows hll
   go_wp2
   go_ret
   exact ⟨wb, wk, l, rfl, HR.out, HX0.out.trans hx⟩
end Go.Proofs.YtiodjapdiflphaaGreatDoor

/- What the reference's Truths has built: how it begins, what it says at its end. -/
namespace Go.Proofs.YtiodjapdiflphaaGreatDoor
open Go.RowKit
theorem radd_any (b : Book) (s : Sack) (L : Lay) (w0 : World) (bv sv : Value) (hB : BookB b) (hS : SackB s) (hb : BookAt w0 bv b) (hs : SackAt w0 sv s) (hL : LayB L w0.heap.size) (hLS : LayS L b s) : ∀ f, AddCall b s L w0 bv sv f
 | 0 => fun x k nv wv A hxf hx hxo hti hI hn hw => radd_leaf bv sv nv wv b s L x k w0 A hB hS hb hs hL hLS hx hxo (by omega) (hti 0 x rfl) hI hn hw
 | f + 1 => radd_node b s L w0 bv sv f hB hS hb hs hL (radd_any b s L w0 bv sv hB hS hb hs hL hLS f)
theorem Grid.less {B B' : Nat} {W : World} {te ti : TypeId} {size Y : Nat} {tv : Value} {l : List (Nat × Nat)} {xss : List (List Value)} (h : Grid B W te ti size Y tv l xss) (k : B' ≤ B) : Grid B' W te ti size Y tv l xss :=
 ⟨owns_less h.own k, h.len, fun i p xs h1 h2 => owns_less (h.each i p xs h1 h2) k, h.inc⟩
/-- A block's elements are of this type. -/
def Typ (W : World) (b : Nat) (e : TypeId) : Prop := ∃ c, W.heap[b]? = some (.cells c e (0, 0))
theorem Typ.ne {W : World} {a b : Nat} {e f : TypeId} (h : Typ W a e) (k : Typ W b f) (hn : e ≠ f) : a ≠ b := by
 rintro rfl
 obtain ⟨c, h⟩ := h
 obtain ⟨d, k⟩ := k
 rw [h] at k
 cases k
 exact hn rfl
theorem owns_typ {W : World} {B g n c size : Nat} {e : TypeId} {xs : List Value} (h : W.ownsRow B e size (.slice (some ⟨g, 0, none⟩) n c) n xs) : Typ W g e := by
 rcases h.2 with ⟨h, _⟩ | ⟨g2, c2, cur2, h, _, k2, _⟩
 ·cases h
 ·cases h; exact ⟨_, k2⟩
theorem tag_new {n r ab og wg pg : Nat} {gs hs : Nat → Nat} (h1 : ab ≠ og) (h2 : ab ≠ wg) (h3 : ab ≠ pg) (h4 : og ≠ wg) (h5 : og ≠ pg) (h6 : wg ≠ pg) (hg : ∀ i, i < n → gs i ≠ ab ∧ gs i ≠ og ∧ gs i ≠ wg ∧ gs i ≠ pg)
  (hh : ∀ i, i < r → hs i ≠ ab ∧ hs i ≠ og ∧ hs i ≠ wg ∧ hs i ≠ pg) (hgh : ∀ i j, i < n → j < r → gs i ≠ hs j) (gi : ∀ i j, i < n → j < n → gs i = gs j → i = j) (hi : ∀ i j, i < r → j < r → hs i = hs j → i = j) :
  ∃ tag : Nat → Nat, tag ab = 0 ∧ tag og = 1 ∧ tag wg = 2 ∧ tag pg = 3 ∧ (∀ i, i < n → tag (gs i) = 4 + 2 * i) ∧ ∀ i, i < r → tag (hs i) = 5 + 2 * i := by
 classical
 refine ⟨fun b => if b = ab then 0 else if b = og then 1 else if b = wg then 2 else if b = pg then 3 else if h : ∃ i, i < n ∧ gs i = b then 4 + 2 * h.choose else if h : ∃ i, i < r ∧ hs i = b then 5 + 2 * h.choose else 0, if_pos rfl, ?_, ?_, ?_, fun i hin => ?_, fun i hir => ?_⟩
 ·show (if og = ab then _ else _) = _
  rw [if_neg (Ne.symm h1), if_pos rfl]
 ·show (if wg = ab then _ else _) = _
  rw [if_neg (Ne.symm h2), if_neg (Ne.symm h4), if_pos rfl]
 ·show (if pg = ab then _ else _) = _
  rw [if_neg (Ne.symm h3), if_neg (Ne.symm h5), if_neg (Ne.symm h6), if_pos rfl]
 ·obtain ⟨k1, k2, k3, k4⟩ := hg i hin
  have hx : ∃ j, j < n ∧ gs j = gs i := ⟨i, hin, rfl⟩
  show (if gs i = ab then _ else _) = _
  rw [if_neg k1, if_neg k2, if_neg k3, if_neg k4, dif_pos hx]
  have := gi _ _ hx.choose_spec.1 hin hx.choose_spec.2
  omega
 ·obtain ⟨k1, k2, k3, k4⟩ := hh i hir
  have hx : ∃ j, j < r ∧ hs j = hs i := ⟨i, hir, rfl⟩
  have hno : ¬ ∃ j, j < n ∧ gs j = hs i := fun ⟨j, hj, e⟩ => hgh j i hj hir e
  show (if hs i = ab then _ else _) = _
  rw [if_neg k1, if_neg k2, if_neg k3, if_neg k4, dif_neg hno, dif_pos hx]
  have := hi _ _ hx.choose_spec.1 hir hx.choose_spec.2
  omega
theorem allI_new {b : Book} {s : Sack} {W0 W : World} {ab og oc wg wc pg : Nat} {l1 l2 : List (Nat × Nat)} {C Y : Nat} (hY : b.years.toNat = Y) (hC : C = b.rivers.length * Y) (hx : Ext W0 W)
  (hbox : W.heap[ab]? = some (.cells #[.bool false, .slice (some ⟨og, 0, none⟩) s.shells.length oc, .slice (some ⟨wg, 0, none⟩) b.rivers.length wc, .slice (some ⟨pg, 0, none⟩) (2 ^ s.shells.length) (2 ^ s.shells.length)] 39 (0, 0)))
  (zab : W0.heap.size ≤ ab) (hO : Grid W0.heap.size W 37 4 1 C (.slice (some ⟨og, 0, none⟩) s.shells.length oc) l1 (List.replicate s.shells.length ((List.replicate C false).map .bool)))
  (hW : Grid W0.heap.size W 60 52 2 Y (.slice (some ⟨wg, 0, none⟩) b.rivers.length wc) l2 (b.rivers.map fun R => R.grow.flatMap pairC))
  (hP : W.ownsRow W0.heap.size 4 1 (.slice (some ⟨pg, 0, none⟩) (2 ^ s.shells.length) (2 ^ s.shells.length)) (2 ^ s.shells.length) ((List.replicate (2 ^ s.shells.length) false).map .bool))
  (hl1 : ∀ p, p ∈ l1 → p.2 = C ∧ pg < p.1) :
  ∃ L, LayB L W0.heap.size ∧ LayS L b s ∧ L.ab = ab ∧ (W0.heap.size ≤ L.og ∧ W0.heap.size ≤ L.wg ∧ L.r ≤ L.wc ∧ L.wc ≤ maxLen) ∧ AllI b s L W0 0 W := by
 have e1 : l1.length = s.shells.length := by rw [hO.len, List.length_replicate]
 have e2 : l2.length = b.rivers.length := by rw [hW.len, List.length_map]
 have g1 : ∀ i, i < s.shells.length → W.ownsRow W0.heap.size 4 1 (.slice (some ⟨(l1.getD i (0, 0)).1, 0, none⟩) C C) C ((List.replicate C false).map .bool) ∧ (l1.getD i (0, 0)).2 = C ∧ pg < (l1.getD i (0, 0)).1 := by
  intro i hi
  obtain ⟨xs, hxs, ho⟩ := hO.row (i := i) (by omega)
  rw [List.getElem?_replicate, if_pos hi] at hxs
  cases hxs
  have hm : l1.getD i (0, 0) ∈ l1 := by rw [List.getD_eq_getElem?_getD, List.getElem?_eq_getElem (by omega)]; exact List.getElem_mem _
  obtain ⟨h1, h2⟩ := hl1 _ hm
  rw [h1] at ho
  exact ⟨ho, h1, h2⟩
 have g2 : ∀ i, i < b.rivers.length → W.ownsRow W0.heap.size 52 2 (.slice (some ⟨(l2.getD i (0, 0)).1, 0, none⟩) Y (l2.getD i (0, 0)).2) Y (((b.rivers.map River.grow).getD i []).flatMap pairC) := by
  intro i hi
  obtain ⟨xs, hxs, ho⟩ := hW.row (i := i) (by omega)
  rw [List.getElem?_map, List.getElem?_eq_getElem hi] at hxs
  cases hxs
  rw [show (b.rivers.map River.grow).getD i [] = b.rivers[i].grow from by rw [List.getD_eq_getElem?_getD, List.getElem?_map, List.getElem?_eq_getElem hi]; rfl]
  exact ho
 have ta : Typ W ab 39 := ⟨_, hbox⟩
 have tO : Typ W og 37 := owns_typ (by have h := hO.own; rw [e1] at h; exact h)
 have tW : Typ W wg 60 := owns_typ (by have h := hW.own; rw [e2] at h; exact h)
 have tP : Typ W pg 4 := owns_typ hP
 have tg : ∀ i, i < s.shells.length → Typ W (l1.getD i (0, 0)).1 4 := fun i hi => owns_typ (g1 i hi).1
 have th : ∀ i, i < b.rivers.length → Typ W (l2.getD i (0, 0)).1 52 := fun i hi => owns_typ (g2 i hi)
 obtain ⟨tag, t0, t1, t2, t3, t4, t5⟩ := tag_new (n := s.shells.length) (r := b.rivers.length) (gs := fun i => (l1.getD i (0, 0)).1) (hs := fun i => (l2.getD i (0, 0)).1) (ta.ne tO (by decide)) (ta.ne tW (by decide)) (ta.ne tP (by decide)) (tO.ne tW (by decide)) (tO.ne tP (by decide)) (tW.ne tP (by decide))
  (fun i hi => ⟨(tg i hi).ne ta (by decide), (tg i hi).ne tO (by decide), (tg i hi).ne tW (by decide), by have := (g1 i hi).2.2; show (l1.getD i (0, 0)).1 ≠ pg; omega⟩)
  (fun i hi => ⟨(th i hi).ne ta (by decide), (th i hi).ne tO (by decide), (th i hi).ne tW (by decide), (th i hi).ne tP (by decide)⟩) (fun i j hi hj => (tg i hi).ne (th j hj) (by decide))
  (fun i j hi hj e => hO.inj (by omega) (by omega) e) (fun i j hi hj e => hW.inj (by omega) (by omega) e)
 have rW := RowAt.of_owns hW.own
 rw [e2] at rW
 obtain ⟨_, _, hv, w1, w2, _⟩ := rW
 cases hv
 refine ⟨⟨s.shells.length, C, b.rivers.length, Y, 2 ^ s.shells.length, ab, og, oc, wg, wc, pg, fun i => (l1.getD i (0, 0)).1, fun i => (l2.getD i (0, 0)).1, fun i => (l2.getD i (0, 0)).2, tag⟩, ⟨t0, t1, t2, t3, t4, t5, zab, (World.ownsRow.lt hP _ rfl).1, fun i hi => (World.ownsRow.lt (g1 i hi).1 _ rfl).1, fun i hi => (World.ownsRow.lt (g2 i hi) _ rfl).1⟩, ⟨rfl, by rw [hY]; exact hC, rfl, hY.symm, rfl⟩, rfl,
  ⟨(World.ownsRow.lt hO.own _ rfl).1, (World.ownsRow.lt hW.own _ rfl).1, w1, w2⟩, ⟨hx, hbox, fun i hi => ?_, fun i hi => ?_, fun i hi => ?_, fun i hi => g2 i hi, ?_⟩⟩
 ·have h := hO.own
  rw [e1] at h
  have hi' : i < s.shells.length := hi
  rw [World.ownsRow.cellAt h i (by omega), List.getElem?_map, List.getElem?_eq_getElem (by omega)]
  obtain ⟨_, h2, _⟩ := g1 i hi
  rw [List.getD_eq_getElem?_getD, List.getElem?_eq_getElem (by omega)] at h2
  show some (Value.slice (some ⟨_, 0, none⟩) C _) = some (Value.slice (some ⟨(l1.getD i (0, 0)).1, 0, none⟩) C C)
  rw [List.getD_eq_getElem?_getD, List.getElem?_eq_getElem (by omega)]
  have h2' : (l1[i]'(by omega)).2 = C := h2
  rw [h2']; rfl
 ·rw [ownRow_zero, hY, ← hC]
  exact (g1 i hi).1
 ·have h := hW.own
  rw [e2] at h
  have hi' : i < b.rivers.length := hi
  rw [World.ownsRow.cellAt h i (by omega), List.getElem?_map, List.getElem?_eq_getElem (by omega)]
  show some (Value.slice (some ⟨_, 0, none⟩) Y _) = some (Value.slice (some ⟨(l2.getD i (0, 0)).1, 0, none⟩) Y (l2.getD i (0, 0)).2)
  rw [List.getD_eq_getElem?_getD, List.getElem?_eq_getElem (by omega)]
  rfl
 ·rw [patsTo_zero]
  exact hP
/-- What Truths leaves behind. -/
structure TruthsAt (b : Book) (s : Sack) (W : World) (og wg wc pg : Nat) : Prop where
 own : ∀ i, i < s.shells.length → ∃ gv, W.cell? ⟨og, i, none⟩ = some gv ∧ RowAt W gv (b.rivers.length * b.years.toNat) ((ownRow b s (truthsOf b s).length i).map .bool)
 wea : possB b s = true → SpansOff (fun _ => False) W (.slice (some ⟨wg, 0, none⟩) b.rivers.length wc) (weatherOf b s)
 pat : MarksAt W (.slice (some ⟨pg, 0, none⟩) (2 ^ s.shells.length) (2 ^ s.shells.length)) (2 ^ s.shells.length) (patternsOf b s)
theorem TruthsAt.ext {b : Book} {s : Sack} {W W' : World} {og wg wc pg : Nat} (h : TruthsAt b s W og wg wc pg) (k : Ext W W') : TruthsAt b s W' og wg wc pg :=
 ⟨fun i hi => by obtain ⟨gv, h1, h2⟩ := h.own i hi; exact ⟨gv, k.cell h1, h2.ext k⟩, fun hp => (h.wea hp).ext k, h.pat.ext k⟩
theorem allI_end {b : Book} {s : Sack} {L : Lay} {W0 A W : World} (hB : BookB b) (hS : SackB s) (hLS : LayS L b s) (hz : W0.heap.size ≤ L.og ∧ W0.heap.size ≤ L.wg ∧ L.r ≤ L.wc ∧ L.wc ≤ maxLen) (hI : AllI b s L W0 (truthsOf b s).length A)
  (hT : Touch (· < W0.heap.size) A W) : TruthsAt b s W L.og L.wg L.wc L.pg := by
 obtain ⟨z1, z2, z3, z4⟩ := hz
 refine ⟨fun i hi => ⟨_, hT.cell (hI.ow i (by rw [hLS.n]; exact hi)) (by simp; omega), ?_⟩, fun hp => ?_, ?_⟩
 ·rw [← hLS.c]
  exact RowAt.of_owns (owns_touch (hI.own i (by rw [hLS.n]; exact hi)) hT (fun g hg => by have := (World.ownsRow.lt (hI.own i (by rw [hLS.n]; exact hi)) g hg).1; omega))
 ·have hsh := weaA_shape hB hS (Nat.le_refl (truthsOf b s).length)
  have hw := wea_end hp
  rw [hw] at hsh
  have e1 : (weatherOf b s).length = b.rivers.length := hsh.1
  refine ⟨(List.range L.r).map fun i => .slice (some ⟨L.hs i, 0, none⟩) L.y (L.cs i), by simp [e1, hLS.r], ⟨some ⟨L.wg, 0, none⟩, L.wc, by rw [e1], by rw [e1, ← hLS.r]; exact z3, z4, (fun e => by cases e), fun j u hj => ⟨L.wg, 0, rfl, ?_⟩⟩, fun _ _ _ _ h => h, fun i x xs hx hxs => ?_⟩
  ·rw [List.getElem?_map] at hj
   obtain ⟨k, hk, rfl⟩ := Option.map_eq_some_iff.1 hj
   obtain ⟨hk1, hk2⟩ := List.getElem?_eq_some_iff.1 hk
   rw [List.length_range] at hk1
   rw [List.getElem_range] at hk2
   subst hk2
   rw [Nat.zero_add]
   exact hT.cell (hI.ww j hk1) (by simp; omega)
  ·rw [List.getElem?_map] at hx
   obtain ⟨k, hk, rfl⟩ := Option.map_eq_some_iff.1 hx
   obtain ⟨hk1, hk2⟩ := List.getElem?_eq_some_iff.1 hk
   rw [List.length_range] at hk1
   rw [List.getElem_range] at hk2
   subst hk2
   have ho := hI.wea i hk1
   simp only [hw] at ho
   have hxs2 : (weatherOf b s).getD i [] = xs := by rw [List.getD_eq_getElem?_getD, hxs]; rfl
   rw [hxs2] at ho
   have hlen : xs.length = L.y := by
    have := hsh.2 xs (List.mem_of_getElem? hxs)
    rw [hLS.y]; omega
   have ho2 := owns_touch ho hT (fun g hg => by have := (World.ownsRow.lt ho g hg).1; omega)
   refine ⟨?_, fun _ _ _ _ h => h⟩
   have := RowAt.of_owns ho2
   rw [← hlen] at this
   show RowAt W _ xs.length (xs.flatMap pairC)
   rw [← hlen]
   exact this
 ·have ho := hI.pat
  rw [hLS.p, pats_marks hS] at ho
  exact RowAt.of_owns (owns_touch ho hT (fun g hg => by have := (World.ownsRow.lt ho g hg).1; omega))
end Go.Proofs.YtiodjapdiflphaaGreatDoor

/- The reference's Truths. -/
namespace Go.Proofs.YtiodjapdiflphaaGreatDoor
open Go.RowKit
theorem st4 {W : World} {b : Nat} {t : TypeId} {a0 a1 a2 a3 v0 v1 v2 v3 : Value} (h : W.heap[b]? = some (.cells #[a0, a1, a2, a3] t (0, 0))) :
  ((((W.setCell ⟨b, 0, none⟩ v0).setCell ⟨b, 1, none⟩ v1).setCell ⟨b, 2, none⟩ v2).setCell ⟨b, 3, none⟩ v3).heap[b]? = some (.cells #[v0, v1, v2, v3] t (0, 0)) ∧ Touch (· = b) W ((((W.setCell ⟨b, 0, none⟩ v0).setCell ⟨b, 1, none⟩ v1).setCell ⟨b, 2, none⟩ v2).setCell ⟨b, 3, none⟩ v3) :=
 ⟨stBlock (i := 3) (stBlock (i := 2) (stBlock (i := 1) (stBlock (i := 0) h))), (((Touch.setCell (M := (· = b)) (A := W) (a := ⟨b, 0, none⟩) _ rfl).trans (Touch.setCell (M := (· = b)) (a := ⟨b, 1, none⟩) _ rfl)).trans (Touch.setCell (M := (· = b)) (a := ⟨b, 2, none⟩) _ rfl)).trans (Touch.setCell (M := (· = b)) (a := ⟨b, 3, none⟩) _ rfl)⟩
theorem owns_box {W W' : World} {ab B s n : Nat} {e e' : TypeId} {c : Array Value} {v : Value} {xs : List Value} (hab : W.heap[ab]? = some (.cells c e (0, 0))) (h : W.ownsRow B e' s v n xs) (hne : e ≠ e') (k : Touch (· = ab) W W') : W'.ownsRow B e' s v n xs := by
 refine owns_touch h k (fun g hg e => ?_)
 subst e
 rcases h.2 with ⟨rfl, _⟩ | ⟨g2, c2, cur2, rfl, _, k2, _⟩
 ·cases hg
 ·cases hg
  rw [hab] at k2
  cases k2
  exact hne rfl
theorem grid_box {W W' : World} {ab B size Y : Nat} {e te ti : TypeId} {c : Array Value} {tv : Value} {l : List (Nat × Nat)} {xss : List (List Value)} (hab : W.heap[ab]? = some (.cells c e (0, 0))) (h : Grid B W te ti size Y tv l xss) (h1 : e ≠ te) (h2 : e ≠ ti) (k : Touch (· = ab) W W') : Grid B W' te ti size Y tv l xss :=
 ⟨owns_box hab h.own h1 k, h.len, fun i p xs hp hx => owns_box hab (h.each i p xs hp hx) h2 k, h.inc⟩
theorem E_brows : Elem Tryz.prog 35 37 1 24 (.slice none 0 0) := by
 obtain ⟨i, h1, h2, h3, h4⟩ := info_parts (P := Tryz.prog) (e := 37) (z := .slice none 0 0) (size := 1) (bytes := 24) (by kernel_rfl)
 exact ⟨Tryz.underlying35, ⟨i, h1, h2, h3, h4⟩, rfl, by decide⟩
/-- What stands in Truths' loop. -/
structure TruI (b : Book) (W0 : World) (ab wb wk pg C Y P : Nat) (l : List (Nat × Nat)) (W : World) (ov : Value) (lo : List (Nat × Nat)) (k : Nat) : Prop where
 ext : Ext W0 W
 box : W.heap[ab]? = some (.cells #[.bool false, ov, .slice (some ⟨wb, 0, none⟩) b.rivers.length wk, .slice (some ⟨pg, 0, none⟩) P P] 39 (0, 0))
 zab : W0.heap.size ≤ ab
 own : Grid W0.heap.size W 37 4 1 C ov lo (List.replicate k ((List.replicate C false).map .bool))
 out : ∀ p, p ∈ lo → p.2 = C ∧ pg < p.1
 wea : Grid W0.heap.size W 60 52 2 Y (.slice (some ⟨wb, 0, none⟩) b.rivers.length wk) l (b.rivers.map fun R => R.grow.flatMap pairC)
 pat : W.ownsRow W0.heap.size 4 1 (.slice (some ⟨pg, 0, none⟩) P P) P ((List.replicate P false).map .bool)
theorem owns_push {W w2 w5 : World} {o : Obj} {B1 B2 s1 s2 n1 n2 : Nat} {e1 e2 : TypeId} {v1 v2 : Value} {x1 x2 : List Value} (h : W.ownsRow B1 e1 s1 v1 n1 x1) (k : W.ownsRow B2 e2 s2 v2 n2 x2) (hne : e1 ≠ e2) (hm : Ext W w2) (hgr : (w2.alloc o).grownBy w5 v1.ownBlock) : w5.ownsRow B2 e2 s2 v2 n2 x2 := by
 refine ((owns_ext k hm).alloc o).kept hgr ?_
 rcases k.2 with ⟨rfl, _⟩ | ⟨g, c, cur, rfl, _⟩
 ·exact .inl rfl
 ·exact .inr (fun e => owns_apart h k hne e.symm)
theorem TruI.push {b : Book} {W0 : World} {ab wb wk pg C Y P : Nat} {l : List (Nat × Nat)} {W w2 w5 : World} {ov : Value} {lo : List (Nat × Nat)} {k g g5 cap : Nat} {o : Obj} (h : TruI b W0 ab wb wk pg C Y P l W ov lo k) (hm : Ext W w2) (hu : w2.ownsRow W0.heap.size 4 1 (.slice (some ⟨g, 0, none⟩) C C) C ((List.replicate C false).map .bool)) (hg : W.heap.size ≤ g)
  (own5 : w5.ownsRow W0.heap.size 37 1 (.slice (some ⟨g5, 0, none⟩) (lo.length + 1) cap) (lo.length + 1) ((lo.map fun p => Value.slice (some ⟨p.1, 0, none⟩) C p.2) ++ [.slice (some ⟨g, 0, none⟩) C C])) (hgr : (w2.alloc o).grownBy w5 ov.ownBlock) :
  Ext W0 w5 ∧ w5.heap[ab]? = W.heap[ab]? ∧ TruI b W0 ab wb wk pg C Y P l (w5.setCell ⟨ab, 1, none⟩ (.slice (some ⟨g5, 0, none⟩) (lo.length + 1) cap)) (.slice (some ⟨g5, 0, none⟩) (lo.length + 1) cap) (lo ++ [(g, C)]) (k + 1) := by
 have hx5 : Ext W0 w5 := ((h.ext.trans hm).alloc o).grown hgr (fun j hj => owns_block h.own.own j hj)
 have hlt := (Array.getElem?_eq_some_iff.1 h.box).1
 have hab : w5.heap[ab]? = W.heap[ab]? := by
  refine (hgr.block ab (by rw [World.size_alloc]; have := hm.size; omega) (fun e => ?_)).trans ((((Ext.refl w2).alloc o).block (by have := hm.size; omega)).trans (hm.block hlt))
  rcases h.own.own.2 with ⟨hv, _⟩ | ⟨g2, c2, cur2, hv, _, k2, _⟩
  ·rw [hv] at e; cases e
  ·rw [hv] at e
   cases (show some ab = some g2 from e)
   have h2 := h.box
   rw [k2] at h2
   injection h2 with h2
   injection h2 with _ h3
   exact absurd h3 (by decide)
 have hb5 : w5.heap[ab]? = _ := hab.trans h.box
 have hT : Touch (· = ab) w5 (w5.setCell ⟨ab, 1, none⟩ (.slice (some ⟨g5, 0, none⟩) (lo.length + 1) cap)) := Touch.setCell _ rfl
 have hO := h.own.push (by decide) hm hu hg own5 hgr
 have hW : Grid W0.heap.size w5 60 52 2 Y (.slice (some ⟨wb, 0, none⟩) b.rivers.length wk) l (b.rivers.map fun R => R.grow.flatMap pairC) :=
  ⟨owns_push h.own.own h.wea.own (by decide) hm hgr, h.wea.len, fun i p xs hp hx => owns_push h.own.own (h.wea.each i p xs hp hx) (by decide) hm hgr, h.wea.inc⟩
 refine ⟨hx5, hab, hx5.setCell (p := ⟨ab, 1, none⟩) h.zab _, stBlock (i := 1) hb5, h.zab, ?_, fun p hp => ?_, grid_box hb5 hW (by decide) (by decide) hT, owns_box hb5 (owns_push h.own.own h.pat (by decide) hm hgr) (by decide) hT⟩
 ·have := grid_box hb5 hO (by decide) (by decide) hT
  rwa [show List.replicate k ((List.replicate C false).map Value.bool) ++ [(List.replicate C false).map Value.bool] = List.replicate (k + 1) ((List.replicate C false).map Value.bool) from by rw [List.replicate_succ']] at this
 ·rcases List.mem_append.1 hp with hp | hp
  ·exact h.out p hp
  ·rw [List.mem_singleton] at hp
   subst hp
   have h0 : pg < W.heap.size := (World.ownsRow.lt h.pat _ rfl).2
   exact ⟨rfl, by show pg < g; omega⟩
theorem poss_len (b : Book) (s : Sack) : decide (0 < (truthsOf b s).length) = possB b s := by
 unfold possB
 cases truthsOf b s with
 | nil => rfl
 | cons x l => simp
theorem shl_P {n : Nat} (h : n ≤ 4) : IntKind.i64.wrap (2 ^ min (IntKind.u64.wrap (n : Int)).toNat 64) = ((2 ^ n : Nat) : Int) := by
 rcases (by omega : n = 0 ∨ n = 1 ∨ n = 2 ∨ n = 3 ∨ n = 4) with h | h | h | h | h <;> rw [h] <;> decide
set_option maxRecDepth 100000 in
set_option maxHeartbeats 16000000 in
theorem rtruths_any (bv sv : Value) (b : Book) (s : Sack) (w : World) (hb : BookAt w bv b) (hB : BookB b) (hs : SackAt w sv s) (hS : SackB s) :
  Calls Tryz.prog 11 #[bv, sv] w fun e w' => ∃ og oc wg wc pg, e = .returned (.agg #[.bool (possB b s), .slice (some ⟨og, 0, none⟩) s.shells.length oc, .slice (some ⟨wg, 0, none⟩) b.rivers.length wc, .slice (some ⟨pg, 0, none⟩) (2 ^ s.shells.length) (2 ^ s.shells.length)]) ∧ TruthsAt b s w' og wg wc pg ∧ Ext w w' := by
 have HBK := Lib.hid (fun W (h : Ext w W) => hb.ext h)
 have HSK := Lib.hid (fun W (h : Ext w W) => hs.ext h)
 obtain ⟨ra, rc, rfl, hr0⟩ := hb.slice
 obtain ⟨sa, sc, ta, tc, rfl, _, _⟩ := hs.slice
 have HB := Lib.hid hB
 have HS := Lib.hid hS
 have y1 := hB.y1
 have y2 := hB.y2
 have r1 := hB.n1
 have r3 := hB.n2
 have n1 := hS.n1
 have n4 := hS.n2
 obtain ⟨Y, hyy⟩ : ∃ Y : Nat, b.years = Y := ⟨b.years.toNat, by omega⟩
 have hYn : b.years.toNat = Y := by omega
 have HYY := Lib.hid (And.intro hyy hYn)
 obtain ⟨W0, hW0⟩ : ∃ W0, W0 = ((w.alloc (.cells #[.int .i64 b.years, .slice ra b.rivers.length rc] 24)).alloc (.cells #[.slice sa s.shells.length sc, .slice ta s.tests.length tc] 28)).alloc (.cells #[.bool false, .slice none 0 0, .slice none 0 0, .slice none 0 0] 39) := ⟨_, rfl⟩
 have hx0 : Ext w W0 := by rw [hW0]; exact (((Ext.refl w).alloc _).alloc _).alloc _
 have HX0 := Lib.hid hx0
 have HZ0 := Lib.hid (show W0.heap.size = w.heap.size + 3 by rw [hW0]; simp)
 have HC := Lib.hid (fun W (h : Ext W0 W) => (⟨h.cell (by rw [hW0]; go_simp), h.cell (by rw [hW0]; go_simp), h.cell (by rw [hW0]; go_simp), h.cell (by rw [hW0]; go_simp)⟩ : W.cell? ⟨w.heap.size, 0, none⟩ = some (.int .i64 b.years) ∧ W.cell? ⟨w.heap.size, 1, none⟩ = some (.slice ra b.rivers.length rc) ∧ W.cell? ⟨w.heap.size + 1, 0, none⟩ = some (.slice sa s.shells.length sc) ∧ W.cell? ⟨w.heap.size + 1, 1, none⟩ = some (.slice ta s.tests.length tc)))
 have HZB := Lib.hid (fun W (h : Ext W0 W) => (h.block (b := w.heap.size + 2) (by rw [hW0]; simp)).trans (show W0.heap[w.heap.size + 2]? = some (.cells #[.bool false, .slice none 0 0, .slice none 0 0, .slice none 0 0] 39 (0, 0)) by
  rw [hW0]
  have h := World.alloc_heap_new ((w.alloc (.cells #[.int .i64 b.years, .slice ra b.rivers.length rc] 24)).alloc (.cells #[.slice sa s.shells.length sc, .slice ta s.tests.length tc] 28)) (.cells #[.bool false, .slice none 0 0, .slice none 0 0, .slice none 0 0] 39)
  rwa [World.size_alloc, World.size_alloc] at h))
 have HWE := Lib.hid (fun W (h : Ext W0 W) => rweather_own _ b Y W (HBK.out W (hx0.trans h)) hB hyy)
 obtain ⟨P, hP⟩ : ∃ P, 2 ^ s.shells.length = P := ⟨_, rfl⟩
 have hP16 : P ≤ 16 := by rw [← hP]; exact Nat.le_trans (Nat.pow_le_pow_right (by decide) (by omega : s.shells.length ≤ 4)) (by decide)
 obtain ⟨i0, hi0, hz0, hz1, hz2⟩ := info_parts info_boolr
 have HSB := Lib.hid (show i0.bytes * P ≤ 281474976710656 ∧ P ≤ maxLen by rw [hz2]; unfold maxLen; omega)
 have HSL : Hid (IntKind.i64.wrap (2 ^ min (IntKind.u64.wrap (s.shells.length : Int)).toNat 64) = (P : Int)) := by rw [← hP]; exact shl_P n4
 rw [hP]
 have HPP := Lib.hid hP
 clear hb hs hB hS hr0 hyy hYn hx0 hP
 go_enter Tryz.func11, Tryz.ntmps11
 go_upto_region 1 with fail
 rw [← hW0]
 clear hW0
 go_cut [5] from 7 to 15 (fun s5 W => ∃ ab wb wk l pg, s5 = .pointer (some ⟨ab, 0, none⟩) ∧ Ext W0 W ∧ Hid (W.heap[ab]? = some (.cells #[.bool false, .slice none 0 0, .slice (some ⟨wb, 0, none⟩) b.rivers.length wk, .slice (some ⟨pg, 0, none⟩) P P] 39 (0, 0)) ∧ W0.heap.size ≤ ab ∧ Grid W0.heap.size W 60 52 2 Y (.slice (some ⟨wb, 0, none⟩) b.rivers.length wk) l (b.rivers.map fun R => R.grow.flatMap pairC) ∧ W.ownsRow W0.heap.size 4 1 (.slice (some ⟨pg, 0, none⟩) P P) P ((List.replicate P false).map .bool)))
 case first =>
  refine wp_region_held_drew (S := (fun W => W.cell? ⟨w.heap.size, 0, none⟩ = some (.int .i64 b.years) ∧ W.cell? ⟨w.heap.size, 1, none⟩ = some (.slice ra b.rivers.length rc) ∧ W.cell? ⟨w.heap.size + 1, 0, none⟩ = some (.slice sa s.shells.length sc) ∧ W.cell? ⟨w.heap.size + 1, 1, none⟩ = some (.slice ta s.tests.length tc))) (by kernel_rfl) ?_ (fun hHeld => ?_)
  ·exact HC.out _ (Ext.refl W0).drew
  refine hTk (i := 0) (d := some 7) (v := ?_) (fun o ho => ?_) hHeld ?_
  rotate_left
  ·simp only [zA, zB, zD] at ho
   subst ho
   refine ⟨by rfl, fun w hSw => ?_⟩
   (try dsimp only at hSw)
   go_simp
   try with_reducible rfl
  try simp only [Act.put, yA, yB, yC]
  refine hTk (i := 2) (d := some 9) (v := ?_) (fun o ho => ?_) hHeld ?_
  rotate_left
  ·simp only [zA, zB, zC, zD] at ho
   subst ho
   refine ⟨by rfl, fun w hSw => ?_⟩
   (try dsimp only at hSw)
   go_simp
   try with_reducible rfl
  try simp only [Act.put, yA, yB, yC]
  refine hTk (i := 3) (d := some 10) (v := ?_) (fun o ho => ?_) hHeld ?_
  rotate_left
  ·simp only [zA, zB, zC, zD] at ho
   subst ho
   refine ⟨by rfl, fun w hSw => ?_⟩
   (try dsimp only at hSw)
   go_simp
   try with_reducible rfl
  try simp only [Act.put, yA, yB, yC]
  refine hTk (i := 4) (d := some 11) (v := ?_) (fun o ho => ?_) hHeld ?_
  rotate_left
  ·simp only [zA, zB, zC, zD] at ho
   subst ho
   refine ⟨by rfl, fun w hSw => ?_⟩
   (try dsimp only at hSw)
   go_simp
   try with_reducible rfl
  try simp only [Act.put, yA, yB, yC]
  refine hTk (i := 5) (d := some 12) (v := ?_) (fun o ho => ?_) hHeld ?_
  rotate_left
  ·simp only [zA, zB, zC, zD] at ho
   subst ho
   refine ⟨by rfl, fun w hSw => ?_⟩
   (try dsimp only at hSw)
   go_simp
   try with_reducible rfl
  try simp only [Act.put, yA, yB, yC]
  refine hTk (i := 6) (d := some 13) (v := ?_) (fun o ho => ?_) hHeld ?_
  rotate_left
  ·simp only [zA, zB, zC, zD] at ho
   subst ho
   refine ⟨by rfl, fun w hSw => ?_⟩
   (try dsimp only at hSw)
   go_simp
   try with_reducible rfl
  try simp only [Act.put, yA, yB, yC]
  refine wpAnyH_ready (rs := [1, 7, 9]) (by kernel_rfl) (by simp) ?_
  refine held_step (i := 1) (by kernel_rfl) (fun o ho K' hK => ?_) ?_
  ·simp only [zA, zB, zC, zD] at ho
   subst ho
   go_simp
   go_at_call 42
   refine (HWE.out _ (by repeat (first | assumption | exact Ext.refl _ | apply Ext.drew | apply Ext.alloc))).mono ?_
   rintro e w1 ⟨wb, wk, l, rfl, hgr, hx1⟩
   have hxw : Ext W0 w1 := Ext.trans (by repeat (first | assumption | exact Ext.refl _ | apply Ext.drew | apply Ext.alloc)) hx1
   have hgr := hgr.out.less (Nat.le_succ_of_le (show Ext W0 _ from (by repeat (first | assumption | exact Ext.refl _ | apply Ext.drew | apply Ext.alloc))).size : W0.heap.size ≤ _)
   try go_simp
   refine hK.out _ _ ?_ (fun hHeld => ?_)
   ·exact HC.out _ (by repeat (first | assumption | exact Ext.refl _ | apply Ext.drew | apply Ext.alloc))
   clear hK K'
   try simp only [yA, yB, yC]
   refine wpAnyH_ready (rs := [7, 9]) (by kernel_rfl) (by simp) ?_
   refine held_step (i := 7) (by kernel_rfl) (fun o ho K' hK => ?_) ?_
   ·simp only [zA, zB, zC, zD] at ho
    subst ho
    refine step_make (by rfl) _ _ _ (by rfl) W0.heap.size _ i0 _ 1 Tryz.underlying37 hi0 hz0 hz1 .i64 .i64 _ _ P (by rfl) (by rfl) HSL.out HSL.out HSB.out.1 HSB.out.2 (show Ext W0 w1 from (by repeat (first | assumption | exact Ext.refl _ | apply Ext.drew | apply Ext.alloc))).size ?_
    intro w2 hown2 hg2
    have hm2 : Ext w1 w2 := Ext.grown (Ext.refl _) hg2 (fun k hk => by cases hk)
    have hxm : Ext W0 w2 := Ext.trans (by repeat (first | assumption | exact Ext.refl _ | apply Ext.drew | apply Ext.alloc)) hm2
    rw [madeCells_bool] at hown2
    have hpg : w2.ownsRow W0.heap.size 4 1 (.slice (some ⟨w1.heap.size, 0, none⟩) P P) P ((List.replicate P false).map .bool) := by simpa using hown2
    clear hg2 hown2
    refine hK.out _ _ ?_ (fun hHeld => ?_)
    ·exact HC.out _ (by repeat (first | assumption | exact Ext.refl _ | apply Ext.drew | apply Ext.alloc))
    clear hK K'
    refine hTk (i := 8) (d := some 15) (v := ?_) (fun o ho => ?_) hHeld ?_
    rotate_left
    ·simp only [zA, zB, zC, zD] at ho
     subst ho
     refine ⟨by rfl, fun w hSw => ?_⟩
     (try dsimp only at hSw)
     go_simp
     try with_reducible rfl
    try simp only [Act.put, yA, yB, yC]
    refine wpAnyH_ready (rs := [9]) (by kernel_rfl) (by simp) ?_
    refine held_step (i := 9) (by kernel_rfl) (fun o ho K' hK => ?_) ?_
    ·simp only [zA, zB, zC, zD] at ho
     subst ho
     have hab : (w2.alloc (.cells #[.bool false, .slice none 0 0, .slice none 0 0, .slice none 0 0] 39)).heap[w2.heap.size]? = some (.cells #[.bool false, .slice none 0 0, .slice none 0 0, .slice none 0 0] 39 (0, 0)) := World.alloc_heap_new _ _
     have hza : W0.heap.size ≤ w2.heap.size := (show Ext W0 w2 from (by repeat (first | assumption | exact Ext.refl _ | apply Ext.drew | apply Ext.alloc))).size
     go_simp
     refine hK.out _ _ ?_ (fun hHeld => ?_)
     ·exact HC.out _ (by repeat (first | assumption | exact Ext.refl _ | apply Ext.drew | apply Ext.alloc))
     clear hK K'
     try simp only [yA, yB, yC]
     refine wpAnyH_ready (rs := [10]) (by kernel_rfl) (by simp) ?_
     refine held_step (i := 10) (by kernel_rfl) (fun o ho K' hK => ?_) ?_
     ·simp only [zA, zB, zC, zD] at ho
      subst ho
      have hpg := owns_ext hpg ((Ext.refl _) : Ext _ w2)
      have hgr := Grid.ext hgr (((Ext.refl _).trans hm2) : Ext _ w2)
      go_simp
      refine hK.out _ _ ?_ (fun hHeld => ?_)
      ·exact HC.out _ (by repeat (first | assumption | exact Ext.refl _ | apply Ext.drew | apply Ext.alloc | (refine Ext.setCell ?_ hza _)))
      clear hK K'
      try simp only [yA, yB, yC]
      refine wpAnyH_done (by kernel_rfl) ?_ _
      try simp only [yA, yB, yC]
      clear hHeld
      go_wp2
      go_meet
      case rel => exact ⟨_, _, _, _, _, rfl, (by repeat (first | assumption | exact Ext.refl _ | apply Ext.drew | apply Ext.alloc)), Lib.hid ⟨World.alloc_heap_new _ _, hza, Grid.ext hgr ((Ext.refl _).alloc _), owns_ext hpg ((Ext.refl _).alloc _)⟩⟩
     exact AllReadyH.nil
    exact AllReadyH.nil
   refine held_step (i := 9) (by kernel_rfl) (fun o ho K' hK => ?_) ?_
   ·simp only [zA, zB, zC, zD] at ho
    subst ho
    have hab : (w1.alloc (.cells #[.bool false, .slice none 0 0, .slice none 0 0, .slice none 0 0] 39)).heap[w1.heap.size]? = some (.cells #[.bool false, .slice none 0 0, .slice none 0 0, .slice none 0 0] 39 (0, 0)) := World.alloc_heap_new _ _
    have hza : W0.heap.size ≤ w1.heap.size := (show Ext W0 w1 from (by repeat (first | assumption | exact Ext.refl _ | apply Ext.drew | apply Ext.alloc))).size
    go_simp
    refine hK.out _ _ ?_ (fun hHeld => ?_)
    ·exact HC.out _ (by repeat (first | assumption | exact Ext.refl _ | apply Ext.drew | apply Ext.alloc))
    clear hK K'
    try simp only [yA, yB, yC]
    refine wpAnyH_ready (rs := [7]) (by kernel_rfl) (by simp) ?_
    refine held_step (i := 7) (by kernel_rfl) (fun o ho K' hK => ?_) ?_
    ·simp only [zA, zB, zC, zD] at ho
     subst ho
     refine step_make (by rfl) _ _ _ (by rfl) W0.heap.size _ i0 _ 1 Tryz.underlying37 hi0 hz0 hz1 .i64 .i64 _ _ P (by rfl) (by rfl) HSL.out HSL.out HSB.out.1 HSB.out.2 (show Ext W0 (w1.alloc (.cells #[.bool false, .slice none 0 0, .slice none 0 0, .slice none 0 0] 39)) from (by repeat (first | assumption | exact Ext.refl _ | apply Ext.drew | apply Ext.alloc))).size ?_
     intro w2 hown2 hg2
     have hm2 : Ext (w1.alloc (.cells #[.bool false, .slice none 0 0, .slice none 0 0, .slice none 0 0] 39)) w2 := Ext.grown (Ext.refl _) hg2 (fun k hk => by cases hk)
     have hxm : Ext W0 w2 := Ext.trans (by repeat (first | assumption | exact Ext.refl _ | apply Ext.drew | apply Ext.alloc)) hm2
     rw [madeCells_bool] at hown2
     have hpg : w2.ownsRow W0.heap.size 4 1 (.slice (some ⟨w1.heap.size + 1, 0, none⟩) P P) P ((List.replicate P false).map .bool) := by simpa using hown2
     clear hg2 hown2
     refine hK.out _ _ ?_ (fun hHeld => ?_)
     ·exact HC.out _ (by repeat (first | assumption | exact Ext.refl _ | apply Ext.drew | apply Ext.alloc))
     clear hK K'
     refine hTk (i := 8) (d := some 15) (v := ?_) (fun o ho => ?_) hHeld ?_
     rotate_left
     ·simp only [zA, zB, zC, zD] at ho
      subst ho
      refine ⟨by rfl, fun w hSw => ?_⟩
      (try dsimp only at hSw)
      go_simp
      try with_reducible rfl
     try simp only [Act.put, yA, yB, yC]
     refine wpAnyH_ready (rs := [10]) (by kernel_rfl) (by simp) ?_
     refine held_step (i := 10) (by kernel_rfl) (fun o ho K' hK => ?_) ?_
     ·simp only [zA, zB, zC, zD] at ho
      subst ho
      replace hab := (Ext.block (((Ext.refl _).trans hm2) : Ext _ w2) (Array.getElem?_eq_some_iff.1 hab).1).trans hab
      have hpg := owns_ext hpg ((Ext.refl _) : Ext _ w2)
      have hgr := Grid.ext hgr ((((Ext.refl _).alloc _).trans hm2) : Ext _ w2)
      have c0 := blkCell hab (i := 0) rfl
      have c1 := blkCell hab (i := 1) rfl
      have c2 := blkCell hab (i := 2) rfl
      have c3 := blkCell hab (i := 3) rfl
      obtain ⟨c0, f0⟩ := c0
      obtain ⟨c1, f1⟩ := c1
      obtain ⟨c2, f2⟩ := c2
      obtain ⟨c3, f3⟩ := c3
      go_simp
      refine hK.out _ _ ?_ (fun hHeld => ?_)
      ·exact HC.out _ (by repeat (first | assumption | exact Ext.refl _ | apply Ext.drew | apply Ext.alloc | (refine Ext.setCell ?_ hza _)))
      clear hK K'
      try simp only [yA, yB, yC]
      refine wpAnyH_done (by kernel_rfl) ?_ _
      try simp only [yA, yB, yC]
      clear hHeld
      go_wp2
      go_meet
      case rel => exact ⟨_, _, _, _, _, rfl, (by repeat (first | assumption | exact Ext.refl _ | apply Ext.drew | apply Ext.alloc | (refine Ext.setCell ?_ hza _))), Lib.hid ⟨(st4 hab).1, hza, grid_box hab hgr (by decide) (by decide) (st4 hab).2, owns_box hab hpg (by decide) (st4 hab).2⟩⟩
     exact AllReadyH.nil
    exact AllReadyH.nil
   exact AllReadyH.nil
  refine held_step (i := 7) (by kernel_rfl) (fun o ho K' hK => ?_) ?_
  ·simp only [zA, zB, zC, zD] at ho
   subst ho
   refine step_make (by rfl) _ _ _ (by rfl) W0.heap.size _ i0 _ 1 Tryz.underlying37 hi0 hz0 hz1 .i64 .i64 _ _ P (by rfl) (by rfl) HSL.out HSL.out HSB.out.1 HSB.out.2 (show Ext W0 W0.drew from (by repeat (first | assumption | exact Ext.refl _ | apply Ext.drew | apply Ext.alloc))).size ?_
   intro w2 hown2 hg2
   have hm2 : Ext W0.drew w2 := Ext.grown (Ext.refl _) hg2 (fun k hk => by cases hk)
   have hxm : Ext W0 w2 := Ext.trans (by repeat (first | assumption | exact Ext.refl _ | apply Ext.drew | apply Ext.alloc)) hm2
   rw [madeCells_bool] at hown2
   have hpg : w2.ownsRow W0.heap.size 4 1 (.slice (some ⟨W0.heap.size, 0, none⟩) P P) P ((List.replicate P false).map .bool) := by simpa using hown2
   clear hg2 hown2
   refine hK.out _ _ ?_ (fun hHeld => ?_)
   ·exact HC.out _ (by repeat (first | assumption | exact Ext.refl _ | apply Ext.drew | apply Ext.alloc))
   clear hK K'
   refine wpAnyH_ready (rs := [1, 9]) (by kernel_rfl) (by simp) ?_
   refine held_step (i := 1) (by kernel_rfl) (fun o ho K' hK => ?_) ?_
   ·simp only [zA, zB, zC, zD] at ho
    subst ho
    go_simp
    go_at_call 42
    refine (HWE.out _ (by repeat (first | assumption | exact Ext.refl _ | apply Ext.drew | apply Ext.alloc))).mono ?_
    rintro e w1 ⟨wb, wk, l, rfl, hgr, hx1⟩
    have hxw : Ext W0 w1 := Ext.trans (by repeat (first | assumption | exact Ext.refl _ | apply Ext.drew | apply Ext.alloc)) hx1
    have hgr := hgr.out.less (Nat.le_succ_of_le (show Ext W0 _ from (by repeat (first | assumption | exact Ext.refl _ | apply Ext.drew | apply Ext.alloc))).size : W0.heap.size ≤ _)
    try go_simp
    refine hK.out _ _ ?_ (fun hHeld => ?_)
    ·exact HC.out _ (by repeat (first | assumption | exact Ext.refl _ | apply Ext.drew | apply Ext.alloc))
    clear hK K'
    try simp only [yA, yB, yC]
    refine hTk (i := 8) (d := some 15) (v := ?_) (fun o ho => ?_) hHeld ?_
    rotate_left
    ·simp only [zA, zB, zC, zD] at ho
     subst ho
     refine ⟨by rfl, fun w hSw => ?_⟩
     (try dsimp only at hSw)
     go_simp
     try with_reducible rfl
    try simp only [Act.put, yA, yB, yC]
    refine wpAnyH_ready (rs := [9]) (by kernel_rfl) (by simp) ?_
    refine held_step (i := 9) (by kernel_rfl) (fun o ho K' hK => ?_) ?_
    ·simp only [zA, zB, zC, zD] at ho
     subst ho
     have hab : (w1.alloc (.cells #[.bool false, .slice none 0 0, .slice none 0 0, .slice none 0 0] 39)).heap[w1.heap.size]? = some (.cells #[.bool false, .slice none 0 0, .slice none 0 0, .slice none 0 0] 39 (0, 0)) := World.alloc_heap_new _ _
     have hza : W0.heap.size ≤ w1.heap.size := (show Ext W0 w1 from (by repeat (first | assumption | exact Ext.refl _ | apply Ext.drew | apply Ext.alloc))).size
     go_simp
     refine hK.out _ _ ?_ (fun hHeld => ?_)
     ·exact HC.out _ (by repeat (first | assumption | exact Ext.refl _ | apply Ext.drew | apply Ext.alloc))
     clear hK K'
     try simp only [yA, yB, yC]
     refine wpAnyH_ready (rs := [10]) (by kernel_rfl) (by simp) ?_
     refine held_step (i := 10) (by kernel_rfl) (fun o ho K' hK => ?_) ?_
     ·simp only [zA, zB, zC, zD] at ho
      subst ho
      have hpg := owns_ext hpg (((Ext.refl _).trans hx1) : Ext _ w1)
      have hgr := Grid.ext hgr ((Ext.refl _) : Ext _ w1)
      go_simp
      refine hK.out _ _ ?_ (fun hHeld => ?_)
      ·exact HC.out _ (by repeat (first | assumption | exact Ext.refl _ | apply Ext.drew | apply Ext.alloc | (refine Ext.setCell ?_ hza _)))
      clear hK K'
      try simp only [yA, yB, yC]
      refine wpAnyH_done (by kernel_rfl) ?_ _
      try simp only [yA, yB, yC]
      clear hHeld
      go_wp2
      go_meet
      case rel => exact ⟨_, _, _, _, _, rfl, (by repeat (first | assumption | exact Ext.refl _ | apply Ext.drew | apply Ext.alloc)), Lib.hid ⟨World.alloc_heap_new _ _, hza, Grid.ext hgr ((Ext.refl _).alloc _), owns_ext hpg ((Ext.refl _).alloc _)⟩⟩
     exact AllReadyH.nil
    exact AllReadyH.nil
   refine held_step (i := 9) (by kernel_rfl) (fun o ho K' hK => ?_) ?_
   ·simp only [zA, zB, zC, zD] at ho
    subst ho
    have hab : (w2.alloc (.cells #[.bool false, .slice none 0 0, .slice none 0 0, .slice none 0 0] 39)).heap[w2.heap.size]? = some (.cells #[.bool false, .slice none 0 0, .slice none 0 0, .slice none 0 0] 39 (0, 0)) := World.alloc_heap_new _ _
    have hza : W0.heap.size ≤ w2.heap.size := (show Ext W0 w2 from (by repeat (first | assumption | exact Ext.refl _ | apply Ext.drew | apply Ext.alloc))).size
    go_simp
    refine hK.out _ _ ?_ (fun hHeld => ?_)
    ·exact HC.out _ (by repeat (first | assumption | exact Ext.refl _ | apply Ext.drew | apply Ext.alloc))
    clear hK K'
    try simp only [yA, yB, yC]
    refine wpAnyH_ready (rs := [1]) (by kernel_rfl) (by simp) ?_
    refine held_step (i := 1) (by kernel_rfl) (fun o ho K' hK => ?_) ?_
    ·simp only [zA, zB, zC, zD] at ho
     subst ho
     go_simp
     go_at_call 42
     refine (HWE.out _ (by repeat (first | assumption | exact Ext.refl _ | apply Ext.drew | apply Ext.alloc))).mono ?_
     rintro e w1 ⟨wb, wk, l, rfl, hgr, hx1⟩
     have hxw : Ext W0 w1 := Ext.trans (by repeat (first | assumption | exact Ext.refl _ | apply Ext.drew | apply Ext.alloc)) hx1
     have hgr := hgr.out.less (Nat.le_succ_of_le (show Ext W0 _ from (by repeat (first | assumption | exact Ext.refl _ | apply Ext.drew | apply Ext.alloc))).size : W0.heap.size ≤ _)
     try go_simp
     refine hK.out _ _ ?_ (fun hHeld => ?_)
     ·exact HC.out _ (by repeat (first | assumption | exact Ext.refl _ | apply Ext.drew | apply Ext.alloc))
     clear hK K'
     try simp only [yA, yB, yC]
     refine hTk (i := 8) (d := some 15) (v := ?_) (fun o ho => ?_) hHeld ?_
     rotate_left
     ·simp only [zA, zB, zC, zD] at ho
      subst ho
      refine ⟨by rfl, fun w hSw => ?_⟩
      (try dsimp only at hSw)
      go_simp
      try with_reducible rfl
     try simp only [Act.put, yA, yB, yC]
     refine wpAnyH_ready (rs := [10]) (by kernel_rfl) (by simp) ?_
     refine held_step (i := 10) (by kernel_rfl) (fun o ho K' hK => ?_) ?_
     ·simp only [zA, zB, zC, zD] at ho
      subst ho
      replace hab := (Ext.block (((Ext.refl _).trans hx1) : Ext _ w1) (Array.getElem?_eq_some_iff.1 hab).1).trans hab
      have hpg := owns_ext hpg ((((Ext.refl _).alloc _).trans hx1) : Ext _ w1)
      have hgr := Grid.ext hgr ((Ext.refl _) : Ext _ w1)
      have c0 := blkCell hab (i := 0) rfl
      have c1 := blkCell hab (i := 1) rfl
      have c2 := blkCell hab (i := 2) rfl
      have c3 := blkCell hab (i := 3) rfl
      obtain ⟨c0, f0⟩ := c0
      obtain ⟨c1, f1⟩ := c1
      obtain ⟨c2, f2⟩ := c2
      obtain ⟨c3, f3⟩ := c3
      go_simp
      refine hK.out _ _ ?_ (fun hHeld => ?_)
      ·exact HC.out _ (by repeat (first | assumption | exact Ext.refl _ | apply Ext.drew | apply Ext.alloc | (refine Ext.setCell ?_ hza _)))
      clear hK K'
      try simp only [yA, yB, yC]
      refine wpAnyH_done (by kernel_rfl) ?_ _
      try simp only [yA, yB, yC]
      clear hHeld
      go_wp2
      go_meet
      case rel => exact ⟨_, _, _, _, _, rfl, (by repeat (first | assumption | exact Ext.refl _ | apply Ext.drew | apply Ext.alloc | (refine Ext.setCell ?_ hza _))), Lib.hid ⟨(st4 hab).1, hza, grid_box hab hgr (by decide) (by decide) (st4 hab).2, owns_box hab hpg (by decide) (st4 hab).2⟩⟩
     exact AllReadyH.nil
    exact AllReadyH.nil
   exact AllReadyH.nil
  refine held_step (i := 9) (by kernel_rfl) (fun o ho K' hK => ?_) ?_
  ·simp only [zA, zB, zC, zD] at ho
   subst ho
   have hab : (W0.drew.alloc (.cells #[.bool false, .slice none 0 0, .slice none 0 0, .slice none 0 0] 39)).heap[W0.heap.size]? = some (.cells #[.bool false, .slice none 0 0, .slice none 0 0, .slice none 0 0] 39 (0, 0)) := World.alloc_heap_new _ _
   have hza : W0.heap.size ≤ W0.heap.size := (show Ext W0 W0.drew from (by repeat (first | assumption | exact Ext.refl _ | apply Ext.drew | apply Ext.alloc))).size
   go_simp
   refine hK.out _ _ ?_ (fun hHeld => ?_)
   ·exact HC.out _ (by repeat (first | assumption | exact Ext.refl _ | apply Ext.drew | apply Ext.alloc))
   clear hK K'
   try simp only [yA, yB, yC]
   refine wpAnyH_ready (rs := [1, 7]) (by kernel_rfl) (by simp) ?_
   refine held_step (i := 1) (by kernel_rfl) (fun o ho K' hK => ?_) ?_
   ·simp only [zA, zB, zC, zD] at ho
    subst ho
    go_simp
    go_at_call 42
    refine (HWE.out _ (by repeat (first | assumption | exact Ext.refl _ | apply Ext.drew | apply Ext.alloc))).mono ?_
    rintro e w1 ⟨wb, wk, l, rfl, hgr, hx1⟩
    have hxw : Ext W0 w1 := Ext.trans (by repeat (first | assumption | exact Ext.refl _ | apply Ext.drew | apply Ext.alloc)) hx1
    have hgr := hgr.out.less (Nat.le_succ_of_le (show Ext W0 _ from (by repeat (first | assumption | exact Ext.refl _ | apply Ext.drew | apply Ext.alloc))).size : W0.heap.size ≤ _)
    try go_simp
    refine hK.out _ _ ?_ (fun hHeld => ?_)
    ·exact HC.out _ (by repeat (first | assumption | exact Ext.refl _ | apply Ext.drew | apply Ext.alloc))
    clear hK K'
    try simp only [yA, yB, yC]
    refine wpAnyH_ready (rs := [7]) (by kernel_rfl) (by simp) ?_
    refine held_step (i := 7) (by kernel_rfl) (fun o ho K' hK => ?_) ?_
    ·simp only [zA, zB, zC, zD] at ho
     subst ho
     refine step_make (by rfl) _ _ _ (by rfl) W0.heap.size _ i0 _ 1 Tryz.underlying37 hi0 hz0 hz1 .i64 .i64 _ _ P (by rfl) (by rfl) HSL.out HSL.out HSB.out.1 HSB.out.2 (show Ext W0 w1 from (by repeat (first | assumption | exact Ext.refl _ | apply Ext.drew | apply Ext.alloc))).size ?_
     intro w2 hown2 hg2
     have hm2 : Ext w1 w2 := Ext.grown (Ext.refl _) hg2 (fun k hk => by cases hk)
     have hxm : Ext W0 w2 := Ext.trans (by repeat (first | assumption | exact Ext.refl _ | apply Ext.drew | apply Ext.alloc)) hm2
     rw [madeCells_bool] at hown2
     have hpg : w2.ownsRow W0.heap.size 4 1 (.slice (some ⟨w1.heap.size, 0, none⟩) P P) P ((List.replicate P false).map .bool) := by simpa using hown2
     clear hg2 hown2
     refine hK.out _ _ ?_ (fun hHeld => ?_)
     ·exact HC.out _ (by repeat (first | assumption | exact Ext.refl _ | apply Ext.drew | apply Ext.alloc))
     clear hK K'
     refine hTk (i := 8) (d := some 15) (v := ?_) (fun o ho => ?_) hHeld ?_
     rotate_left
     ·simp only [zA, zB, zC, zD] at ho
      subst ho
      refine ⟨by rfl, fun w hSw => ?_⟩
      (try dsimp only at hSw)
      go_simp
      try with_reducible rfl
     try simp only [Act.put, yA, yB, yC]
     refine wpAnyH_ready (rs := [10]) (by kernel_rfl) (by simp) ?_
     refine held_step (i := 10) (by kernel_rfl) (fun o ho K' hK => ?_) ?_
     ·simp only [zA, zB, zC, zD] at ho
      subst ho
      replace hab := (Ext.block ((((Ext.refl _).trans hx1).trans hm2) : Ext _ w2) (Array.getElem?_eq_some_iff.1 hab).1).trans hab
      have hpg := owns_ext hpg ((Ext.refl _) : Ext _ w2)
      have hgr := Grid.ext hgr (((Ext.refl _).trans hm2) : Ext _ w2)
      have c0 := blkCell hab (i := 0) rfl
      have c1 := blkCell hab (i := 1) rfl
      have c2 := blkCell hab (i := 2) rfl
      have c3 := blkCell hab (i := 3) rfl
      obtain ⟨c0, f0⟩ := c0
      obtain ⟨c1, f1⟩ := c1
      obtain ⟨c2, f2⟩ := c2
      obtain ⟨c3, f3⟩ := c3
      go_simp
      refine hK.out _ _ ?_ (fun hHeld => ?_)
      ·exact HC.out _ (by repeat (first | assumption | exact Ext.refl _ | apply Ext.drew | apply Ext.alloc | (refine Ext.setCell ?_ hza _)))
      clear hK K'
      try simp only [yA, yB, yC]
      refine wpAnyH_done (by kernel_rfl) ?_ _
      try simp only [yA, yB, yC]
      clear hHeld
      go_wp2
      go_meet
      case rel => exact ⟨_, _, _, _, _, rfl, (by repeat (first | assumption | exact Ext.refl _ | apply Ext.drew | apply Ext.alloc | (refine Ext.setCell ?_ hza _))), Lib.hid ⟨(st4 hab).1, hza, grid_box hab hgr (by decide) (by decide) (st4 hab).2, owns_box hab hpg (by decide) (st4 hab).2⟩⟩
     exact AllReadyH.nil
    exact AllReadyH.nil
   refine held_step (i := 7) (by kernel_rfl) (fun o ho K' hK => ?_) ?_
   ·simp only [zA, zB, zC, zD] at ho
    subst ho
    refine step_make (by rfl) _ _ _ (by rfl) W0.heap.size _ i0 _ 1 Tryz.underlying37 hi0 hz0 hz1 .i64 .i64 _ _ P (by rfl) (by rfl) HSL.out HSL.out HSB.out.1 HSB.out.2 (show Ext W0 (W0.drew.alloc (.cells #[.bool false, .slice none 0 0, .slice none 0 0, .slice none 0 0] 39)) from (by repeat (first | assumption | exact Ext.refl _ | apply Ext.drew | apply Ext.alloc))).size ?_
    intro w2 hown2 hg2
    have hm2 : Ext (W0.drew.alloc (.cells #[.bool false, .slice none 0 0, .slice none 0 0, .slice none 0 0] 39)) w2 := Ext.grown (Ext.refl _) hg2 (fun k hk => by cases hk)
    have hxm : Ext W0 w2 := Ext.trans (by repeat (first | assumption | exact Ext.refl _ | apply Ext.drew | apply Ext.alloc)) hm2
    rw [madeCells_bool] at hown2
    have hpg : w2.ownsRow W0.heap.size 4 1 (.slice (some ⟨W0.heap.size + 1, 0, none⟩) P P) P ((List.replicate P false).map .bool) := by simpa using hown2
    clear hg2 hown2
    refine hK.out _ _ ?_ (fun hHeld => ?_)
    ·exact HC.out _ (by repeat (first | assumption | exact Ext.refl _ | apply Ext.drew | apply Ext.alloc))
    clear hK K'
    refine wpAnyH_ready (rs := [1]) (by kernel_rfl) (by simp) ?_
    refine held_step (i := 1) (by kernel_rfl) (fun o ho K' hK => ?_) ?_
    ·simp only [zA, zB, zC, zD] at ho
     subst ho
     go_simp
     go_at_call 42
     refine (HWE.out _ (by repeat (first | assumption | exact Ext.refl _ | apply Ext.drew | apply Ext.alloc))).mono ?_
     rintro e w1 ⟨wb, wk, l, rfl, hgr, hx1⟩
     have hxw : Ext W0 w1 := Ext.trans (by repeat (first | assumption | exact Ext.refl _ | apply Ext.drew | apply Ext.alloc)) hx1
     have hgr := hgr.out.less (Nat.le_succ_of_le (show Ext W0 _ from (by repeat (first | assumption | exact Ext.refl _ | apply Ext.drew | apply Ext.alloc))).size : W0.heap.size ≤ _)
     try go_simp
     refine hK.out _ _ ?_ (fun hHeld => ?_)
     ·exact HC.out _ (by repeat (first | assumption | exact Ext.refl _ | apply Ext.drew | apply Ext.alloc))
     clear hK K'
     try simp only [yA, yB, yC]
     refine hTk (i := 8) (d := some 15) (v := ?_) (fun o ho => ?_) hHeld ?_
     rotate_left
     ·simp only [zA, zB, zC, zD] at ho
      subst ho
      refine ⟨by rfl, fun w hSw => ?_⟩
      (try dsimp only at hSw)
      go_simp
      try with_reducible rfl
     try simp only [Act.put, yA, yB, yC]
     refine wpAnyH_ready (rs := [10]) (by kernel_rfl) (by simp) ?_
     refine held_step (i := 10) (by kernel_rfl) (fun o ho K' hK => ?_) ?_
     ·simp only [zA, zB, zC, zD] at ho
      subst ho
      replace hab := (Ext.block ((((Ext.refl _).trans hm2).trans hx1) : Ext _ w1) (Array.getElem?_eq_some_iff.1 hab).1).trans hab
      have hpg := owns_ext hpg (((Ext.refl _).trans hx1) : Ext _ w1)
      have hgr := Grid.ext hgr ((Ext.refl _) : Ext _ w1)
      have c0 := blkCell hab (i := 0) rfl
      have c1 := blkCell hab (i := 1) rfl
      have c2 := blkCell hab (i := 2) rfl
      have c3 := blkCell hab (i := 3) rfl
      obtain ⟨c0, f0⟩ := c0
      obtain ⟨c1, f1⟩ := c1
      obtain ⟨c2, f2⟩ := c2
      obtain ⟨c3, f3⟩ := c3
      go_simp
      refine hK.out _ _ ?_ (fun hHeld => ?_)
      ·exact HC.out _ (by repeat (first | assumption | exact Ext.refl _ | apply Ext.drew | apply Ext.alloc | (refine Ext.setCell ?_ hza _)))
      clear hK K'
      try simp only [yA, yB, yC]
      refine wpAnyH_done (by kernel_rfl) ?_ _
      try simp only [yA, yB, yC]
      clear hHeld
      go_wp2
      go_meet
      case rel => exact ⟨_, _, _, _, _, rfl, (by repeat (first | assumption | exact Ext.refl _ | apply Ext.drew | apply Ext.alloc | (refine Ext.setCell ?_ hza _))), Lib.hid ⟨(st4 hab).1, hza, grid_box hab hgr (by decide) (by decide) (st4 hab).2, owns_box hab hpg (by decide) (st4 hab).2⟩⟩
     exact AllReadyH.nil
    exact AllReadyH.nil
   exact AllReadyH.nil
  exact AllReadyH.nil
 case rest =>
  obtain ⟨ab, wb, wk, l, pg, rfl, hx1, hcut⟩ := hcut
  obtain ⟨C, hC⟩ : ∃ C, C = b.rivers.length * Y := ⟨_, rfl⟩
  have hC18 : C ≤ 18 := by
   rw [hC]
   have h2 : Y ≤ 6 := by have := HYY.out.1; omega
   exact Nat.le_trans (Nat.mul_le_mul r3 h2) (by decide)
  have E1 : IntKind.i64.wrap ((b.rivers.length : Int) * b.years) = (C : Int) := by rw [HYY.out.1, hC, Int.natCast_mul]; exact IntWalk.i64_in _ (by rw [← Int.natCast_mul, ← hC]; omega)
  have HE1 := Lib.hid E1
  have HCC := Lib.hid hC
  have HSC := Lib.hid (show i0.bytes * C ≤ 281474976710656 ∧ C ≤ maxLen by rw [hz2]; unfold maxLen; omega)
  have HI0 : Hid (TruI b W0 ab wb wk pg C Y P l wc (.slice none 0 0) [] 0) := ⟨hx1, hcut.out.1, hcut.out.2.1, Grid.nil _ _ _ _ _ _, fun p hp => (by simp at hp), hcut.out.2.2.1, hcut.out.2.2.2⟩
  clear hcut E1 hC HSB HSL HWE
  go_wp2
  go_loopw [6] (fun i wr => ∃ (k : Nat) (ov : Value) (lo : List (Nat × Nat)), k ≤ s.shells.length ∧ i = .int .i64 (k : Int) ∧ Hid (TruI b W0 ab wb wk pg C Y P l wr ov lo k)) (fun i _ => s.shells.length - (intOf i).toNat)
  case atStart => exact ⟨0, _, [], Nat.zero_le _, rfl, HI0.out⟩
  case round =>
   clear HI0 hx1
   obtain ⟨k, ov, lo, hk, rfl, hI⟩ := hrel
   have hxr := hI.out.ext
   have HXR := Lib.hid hxr
   obtain ⟨z0, z1, z2, z3⟩ := HC.out _ hxr
   clear hxr
   by_cases hlt : k < s.shells.length
   ·have x1 : decide ((k : Int) < (s.shells.length : Int)) = true := by simpa using hlt
    have x2 : (k : Int) < (s.shells.length : Int) := by omega
    obtain ⟨c1, f1⟩ := blkCell hI.out.box (i := 1) rfl
    replace c1 : wr.cell? ⟨ab, 1, none⟩ = some ov := c1
    have hll : lo.length = k := by rw [hI.out.own.len, List.length_replicate]
    have HSZ := Lib.hid (show lo.length + 1 ≤ maxLen ∧ (lo.length + 1) * 24 ≤ 140737488355328 by unfold maxLen; omega)
    have HS5 := Lib.hid (fun W (h : Ext wr W) => (⟨h.cell c1, h.cell z1, h.cell z0⟩ : W.cell? ⟨ab, 1, none⟩ = some ov ∧ W.cell? ⟨w.heap.size, 1, none⟩ = some (.slice ra b.rivers.length rc) ∧ W.cell? ⟨w.heap.size, 0, none⟩ = some (.int .i64 b.years)))
    clear hll
    go_upto_region 5 with fail
    refine wp_region_noPanic ?_
    refine wp_region_any (by kernel_rfl) (wpAny_of_till (z := 12) (S := (fun w' => w'.cell? ⟨ab, 1, none⟩ = some ov ∧ w'.cell? ⟨w.heap.size, 1, none⟩ = some (.slice ra b.rivers.length rc) ∧ w'.cell? ⟨w.heap.size, 0, none⟩ = some (.int .i64 b.years))) _ _ _ _ ?_)
    change wpTill _ _ _ _ _ _ _ _ _ wr.drew
    have hS0 := HS5.out _ (Ext.refl wr).drew
    refine till_at (i := 0) (d := some 23) (v := ?_) (by kernel_rfl) (by kernel_rfl) (by kernel_rfl) (by kernel_rfl) (by kernel_rfl) (fun _ _ _ h => h) (fun o ho => ?_) hS0 ?_
    rotate_left
    ·simp only [zA, zB, zD] at ho
     subst ho
     refine Or.inl ⟨by rfl, fun w' hSw => ?_⟩
     obtain ⟨hSw0, hSw1, hSw2⟩ := hSw
     go_simp
     try with_reducible rfl
    try simp only [Act.put, yA, yB, yC]
    refine till_at (i := 1) (d := some 24) (v := ?_) (by kernel_rfl) (by kernel_rfl) (by kernel_rfl) (by kernel_rfl) (by kernel_rfl) (fun _ _ _ h => h) (fun o ho => ?_) hS0 ?_
    rotate_left
    ·simp only [zA, zB, zC, zD] at ho
     subst ho
     refine Or.inl ⟨by rfl, fun w' hSw => ?_⟩
     obtain ⟨hSw0, hSw1, hSw2⟩ := hSw
     go_simp
     try with_reducible rfl
    try simp only [Act.put, yA, yB, yC]
    refine till_at (i := 2) (d := some 25) (v := ?_) (by kernel_rfl) (by kernel_rfl) (by kernel_rfl) (by kernel_rfl) (by kernel_rfl) (fun _ _ _ h => h) (fun o ho => ?_) hS0 ?_
    rotate_left
    ·simp only [zA, zB, zC, zD] at ho
     subst ho
     refine Or.inl ⟨by rfl, fun w' hSw => ?_⟩
     obtain ⟨hSw0, hSw1, hSw2⟩ := hSw
     go_simp
     try with_reducible rfl
    try simp only [Act.put, yA, yB, yC]
    refine till_at (i := 3) (d := some 26) (v := ?_) (by kernel_rfl) (by kernel_rfl) (by kernel_rfl) (by kernel_rfl) (by kernel_rfl) (fun _ _ _ h => h) (fun o ho => ?_) hS0 ?_
    rotate_left
    ·simp only [zA, zB, zC, zD] at ho
     subst ho
     refine Or.inl ⟨by rfl, fun w' hSw => ?_⟩
     obtain ⟨hSw0, hSw1, hSw2⟩ := hSw
     go_simp
     try with_reducible rfl
    try simp only [Act.put, yA, yB, yC]
    refine till_at (i := 4) (d := some 27) (v := ?_) (by kernel_rfl) (by kernel_rfl) (by kernel_rfl) (by kernel_rfl) (by kernel_rfl) (fun _ _ _ h => h) (fun o ho => ?_) hS0 ?_
    rotate_left
    ·simp only [zA, zB, zC, zD] at ho
     subst ho
     refine Or.inl ⟨by rfl, fun w' hSw => ?_⟩
     obtain ⟨hSw0, hSw1, hSw2⟩ := hSw
     go_simp
     try with_reducible rfl
    try simp only [Act.put, yA, yB, yC]
    refine till_at (i := 5) (d := some 28) (v := ?_) (by kernel_rfl) (by kernel_rfl) (by kernel_rfl) (by kernel_rfl) (by kernel_rfl) (fun _ _ _ h => h) (fun o ho => ?_) hS0 ?_
    rotate_left
    ·simp only [zA, zB, zC, zD] at ho
     subst ho
     refine Or.inl ⟨by rfl, fun w' hSw => ?_⟩
     obtain ⟨hSw0, hSw1, hSw2⟩ := hSw
     go_simp
     try with_reducible rfl
    try simp only [Act.put, yA, yB, yC]
    refine till_at (i := 6) (d := some 29) (v := ?_) (by kernel_rfl) (by kernel_rfl) (by kernel_rfl) (by kernel_rfl) (by kernel_rfl) (fun _ _ _ h => h) (fun o ho => ?_) hS0 ?_
    rotate_left
    ·simp only [zA, zB, zC, zD] at ho
     subst ho
     refine Or.inl ⟨by rfl, fun w' hSw => ?_⟩
     obtain ⟨hSw0, hSw1, hSw2⟩ := hSw
     go_simp
     try with_reducible rfl
    try simp only [Act.put, yA, yB, yC]
    refine till_at (i := 7) (d := some 30) (v := ?_) (by kernel_rfl) (by kernel_rfl) (by kernel_rfl) (by kernel_rfl) (by kernel_rfl) (fun _ _ _ h => h) (fun o ho => ?_) hS0 ?_
    rotate_left
    ·simp only [zA, zB, zC, zD] at ho
     subst ho
     refine Or.inl ⟨by rfl, fun w' hSw => ?_⟩
     obtain ⟨hSw0, hSw1, hSw2⟩ := hSw
     go_simp
     try with_reducible rfl
    try simp only [Act.put, yA, yB, yC]
    refine till_step (i := 8) (by kernel_rfl) (by kernel_rfl) (fun o ho K' hK => ?_)
    simp only [zA, zB, zC, zD] at ho
    subst ho
    refine step_make (by rfl) _ _ _ (by rfl) W0.heap.size _ i0 _ 1 Tryz.underlying37 hi0 hz0 hz1 .i64 .i64 _ _ C (by rfl) (by rfl) HE1.out HE1.out HSC.out.1 HSC.out.2 (show Ext W0 _ from HXR.out.drew).size ?_
    intro w2 hown2 hg2
    have hm2 : Ext wr w2 := Ext.grown (Ext.refl wr).drew hg2 (fun k hk => by cases hk)
    rw [madeCells_bool] at hown2
    have HO2 := Lib.hid hown2
    clear hg2 hown2
    have hS8 := HS5.out _ hm2
    refine hK.out _ _ (fun _ => hS8) (fun _ => ?_)
    clear hK K'
    try simp only [Act.put, yA, yB, yC]
    refine till_step (i := 9) (by kernel_rfl) (by kernel_rfl) (fun o ho K' hK => ?_)
    simp only [zA, zB, zC, zD] at ho
    subst ho
    go_simp
    have hS9 := HS5.out _ (hm2.alloc (.cells #[.slice (some ⟨wr.heap.size, 0, none⟩) C C] 37))
    refine hK.out _ _ (fun _ => hS9) (fun _ => ?_)
    clear hK K'
    try simp only [Act.put, yA, yB, yC]
    refine till_step (i := 10) (by kernel_rfl) (by kernel_rfl) (fun o ho K' hK => ?_)
    simp only [zA, zB, zC, zD] at ho
    subst ho
    refine step_push_at E_brows (by rfl) _ _ (by rfl) W0.heap.size (by rfl) (owns_ext hI.out.own.own hm2) (by rfl) (by rfl) (by rfl) (by simp [Value.oneCell']) ?_ HSZ.out.1 HSZ.out.2 (HXR.out.trans hm2).size
    intro g5 cap5 w5 hown5 hg5 hloc5
    have hp := hI.out.push hm2 HO2.out (Nat.le_refl _) hown5 hg5
    clear hown5 hg5 hloc5
    have hS10 := (⟨(blkCell (hp.2.1.trans hI.out.box) (i := 1) rfl).1, (HC.out _ hp.1).2.1, (HC.out _ hp.1).1⟩ : w5.cell? ⟨ab, 1, none⟩ = some ov ∧ w5.cell? ⟨w.heap.size, 1, none⟩ = some (.slice ra b.rivers.length rc) ∧ w5.cell? ⟨w.heap.size, 0, none⟩ = some (.int .i64 b.years))
    refine hK.out _ _ (fun _ => hS10) (fun _ => ?_)
    clear hK K'
    try simp only [Act.put, yA, yB, yC]
    refine till_at (i := 11) (d := some 34) (v := ?_) (by kernel_rfl) (by kernel_rfl) (by kernel_rfl) (by kernel_rfl) (by kernel_rfl) (fun _ _ _ h => h) (fun o ho => ?_) hS10 ?_
    rotate_left
    ·simp only [zA, zB, zC, zD] at ho
     subst ho
     refine Or.inl ⟨by rfl, fun w' hSw => ?_⟩
     obtain ⟨hSw0, hSw1, hSw2⟩ := hSw
     go_simp
     try with_reducible rfl
    try simp only [Act.put, yA, yB, yC]
    refine till_step (i := 12) (by kernel_rfl) (by kernel_rfl) (fun o ho K' hK => ?_)
    simp only [zA, zB, zC, zD] at ho
    subst ho
    obtain ⟨c1, f1⟩ := blkCell (hp.2.1.trans hI.out.box) (i := 1) rfl
    go_simp
    refine hK.out _ _ (fun h => absurd rfl h) (fun _ => ?_)
    clear hK K'
    try simp only [Act.put, yA, yB, yC]
    refine till_done (by kernel_rfl) ?_ _
    refine NoPanic.normal ?_
    try simp only [Act.put, yA, yB, yC]
    go_wp2
    refine ⟨⟨k + 1, _, _, by omega, by go_num, hp.2.2⟩, by simp [intOf]; omega⟩
   ·have x1 : decide ((k : Int) < (s.shells.length : Int)) = false := by simp; omega
    have hkn : k = s.shells.length := by omega
    subst hkn
    have hll : lo.length = s.shells.length := by rw [hI.out.own.len, List.length_replicate]
    obtain ⟨og, oc, rfl, _, _⟩ := owns_form hI.out.own.own (by omega)
    rw [hll] at hI
    have hPP := HPP.out
    subst hPP
    obtain ⟨L, hL, hLS, rfl, hLz, hA⟩ := allI_new (b := b) (s := s) HYY.out.2 HCC.out hI.out.ext hI.out.box hI.out.zab hI.out.own hI.out.wea hI.out.pat hI.out.out
    have HL := Lib.hid hL
    have HLS := Lib.hid hLS
    have HLZ := Lib.hid hLz
    have HA := Lib.hid hA
    have HML := Lib.hid hA.lt
    have HWA := Lib.hid (fun W (h : Ext W0 W) => rweather_any _ b W (HBK.out W (HX0.out.trans h)) HB.out)
    have HAD := Lib.hid (fun (wv : Value) (W : World) (h : Ext wr W) (hw : SpansOff L.M W wv (beginB b).wea) => radd_any b s L W0 _ _ HB.out HS.out (HBK.out W0 HX0.out) (HSK.out W0 HX0.out) hL hLS s.shells.length (beginB b) 0 (.slice none 0 0) wv W (by simp [beginB]) (StateB.begin HB.out) (fun o h => by simp [beginB] at h) (fun j z h => by rw [Nat.zero_add]; exact h) (AllG.ext' hA h) ⟨RowAt.nil _, OffV.nil _⟩ hw)
    clear hL hLS hLz hA hI hll HCC HE1 HSC x1 hlt hk
    go_upto_region 6 with fail
    refine wp_region_held_drew (S := (fun W => W.cell? ⟨w.heap.size, 0, none⟩ = some (.int .i64 b.years) ∧ W.cell? ⟨w.heap.size, 1, none⟩ = some (.slice ra b.rivers.length rc) ∧ W.cell? ⟨w.heap.size + 1, 0, none⟩ = some (.slice sa s.shells.length sc) ∧ W.cell? ⟨w.heap.size + 1, 1, none⟩ = some (.slice ta s.tests.length tc))) (by kernel_rfl) ?_ (fun hHeld => ?_)
    ·exact HC.out _ HXR.out.drew
    refine hTk (i := 0) (d := some 35) (v := ?_) (fun o ho => ?_) hHeld ?_
    rotate_left
    ·simp only [zA, zB, zD] at ho
     subst ho
     refine ⟨by rfl, fun w hSw => ?_⟩
     (try dsimp only at hSw)
     go_simp
     try with_reducible rfl
    try simp only [Act.put, yA, yB, yC]
    refine hTk (i := 1) (d := some 36) (v := ?_) (fun o ho => ?_) hHeld ?_
    rotate_left
    ·simp only [zA, zB, zC, zD] at ho
     subst ho
     refine ⟨by rfl, fun w hSw => ?_⟩
     (try dsimp only at hSw)
     go_simp
     try with_reducible rfl
    try simp only [Act.put, yA, yB, yC]
    refine hTk (i := 2) (d := some 37) (v := ?_) (fun o ho => ?_) hHeld ?_
    rotate_left
    ·simp only [zA, zB, zC, zD] at ho
     subst ho
     refine ⟨by rfl, fun w hSw => ?_⟩
     (try dsimp only at hSw)
     go_simp
     try with_reducible rfl
    try simp only [Act.put, yA, yB, yC]
    refine wpAnyH_ready (rs := [3]) (by kernel_rfl) (by simp) ?_
    refine held_step (i := 3) (by kernel_rfl) (fun o ho K' hK => ?_) ?_
    ·simp only [zA, zB, zC, zD] at ho
     subst ho
     go_simp
     go_at_call 42
     refine (HWA.out _ HXR.out.drew).mono ?_
     rintro e w1 ⟨wv2, vs, rfl, hrows, hx3⟩
     have hxw : Ext wr w1 := (Ext.refl wr).drew.trans hx3
     have HOFF := Lib.hid (hrows.off.less (fun j hj => Nat.lt_succ_of_lt (HML.out j hj)))
     clear hrows hx3
     try go_simp
     refine hK.out _ _ ?_ (fun hHeld => ?_)
     ·exact HC.out _ (HXR.out.trans hxw)
     clear hK K'
     try simp only [yA, yB, yC]
     refine wpAnyH_ready (rs := [4]) (by kernel_rfl) (by simp) ?_
     refine held_step (i := 4) (by kernel_rfl) (fun o ho K' hK => ?_) ?_
     ·simp only [zA, zB, zC, zD] at ho
      subst ho
      go_simp
      go_at_call 43
      refine (HAD.out _ w1 hxw HOFF.out).mono ?_
      rintro e w4 ⟨rfl, hT4, hI4⟩
      rw [Nat.zero_add] at hI4
      have HI4 := Lib.hid hI4
      clear hT4 hI4
      refine hK.out _ _ ?_ (fun hHeld => ?_)
      ·exact HC.out _ HI4.out.ext
      clear hK K'
      try simp only [yA, yB, yC]
      refine wpAnyH_done (by kernel_rfl) ?_ _
      try simp only [yA, yB, yC]
      clear hHeld
      have hI5 := HI4.out
      obtain ⟨c0, cf, c1, c2, c3⟩ := AllG.c0 hI5
      have hb4 := HZB.out _ hI5.ext
      obtain ⟨d0, f0⟩ := blkCell hb4 (i := 0) rfl
      obtain ⟨d1, f1⟩ := blkCell hb4 (i := 1) rfl
      obtain ⟨d2, f2⟩ := blkCell hb4 (i := 2) rfl
      obtain ⟨d3, f3⟩ := blkCell hb4 (i := 3) rfl
      clear hI5 hb4
      go_wp2
      refine bodyPost_ret (v := .agg #[.bool (decide (0 < (truthsFrom b s s.shells.length (beginB b)).length)), .slice (some ⟨L.og, 0, none⟩) L.n L.oc, .slice (some ⟨L.wg, 0, none⟩) L.r L.wc, .slice (some ⟨L.pg, 0, none⟩) L.p L.p]) (by simp [results, Tryz.results11, go_sem, *]) rfl ?_
      have hT := (st4 (v0 := .bool (decide (0 < (truthsFrom b s s.shells.length (beginB b)).length))) (v1 := .slice (some ⟨L.og, 0, none⟩) L.n L.oc) (v2 := .slice (some ⟨L.wg, 0, none⟩) L.r L.wc) (v3 := .slice (some ⟨L.pg, 0, none⟩) L.p L.p) (HZB.out w4 HI4.out.ext)).2
      refine ⟨L.og, L.oc, L.wg, L.wc, L.pg, ?_, allI_end HB.out HS.out HLS.out HLZ.out HI4.out (hT.mono (fun j hj => by have := HZ0.out; omega)), Touch.ext (HX0.out.trans HI4.out.ext) hT (fun j hj => by omega)⟩
      rw [HLS.out.n, HLS.out.r, HLS.out.p, show decide (0 < (truthsFrom b s s.shells.length (beginB b)).length) = possB b s from poss_len b s]
     exact AllReadyH.nil
    exact AllReadyH.nil
end Go.Proofs.YtiodjapdiflphaaGreatDoor
