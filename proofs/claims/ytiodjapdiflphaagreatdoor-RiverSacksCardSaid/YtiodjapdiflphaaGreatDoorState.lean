/- The iterator over origins. -/
import Derived.Test.YtiodjapdiflphaaGreatDoorBookq
import Derived.Test.YtiodjapdiflphaaGreatDoorLook
import Derived.Test.YtiodjapdiflphaaGreatDoorRange
import Derived.RangeFuncBound
import Derived.RangeFuncCalls
import Derived.OwnWalkIn
import Derived.TacticsInMore
import Derived.LoopIn
import Derived.LoopNIn
import Derived.Laws.EntriesVeiled
import Derived.Test.YtiodjapdiflphaaGreatDoorLen
import Derived.Shelf.RegionOpen
import Derived.OwnWalk
import Derived.Lib.SliceRun
import Derived.Deep.QuietTactic
import Derived.BigQuiet
import Derived.Maps.AppendAt
import Derived.Maps.OwnIn
import Derived.Laws.OwnMore
namespace Go.Proofs.YtiodjapdiflphaaGreatDoor
open Go.RowKit
attribute [local go_sem] Oper.semAt_some
theorem Stable.out' {n : Nat} {J : World → Prop} (h : Stable n J) {A B : World} (hj : J A) (hx : Ext A B) : J B := h A B hj (Quiet.of_ext hx)
theorem Touch.frozen {M : Nat → Prop} {A B : World} (k : Touch M A B) {a : Addr} {v : Value} (h : A.cell? a = some v) (hn : ¬ M a.block) : B.frozen? a = A.frozen? a := by
 obtain ⟨o, ho, _⟩ := cells_of_cell h
 exact World.frozen?_of_block (w := A) ((k.keep _ _ ho hn).trans ho.symm)
theorem originsOf_at {b : Book} {n r j : Nat} (hr : r < b.rivers.length) (hj : j < b.years.toNat + 1 - n) : (originsOf b n)[r * (b.years.toNat + 1 - n) + j]? = some ((r : Int), ((n - 1 + j : Nat) : Int)) := by
 unfold originsOf
 rw [flatMap_at (x := r) _ (b.years.toNat + 1 - n) (by simp) _ _ _ (by simp [hr]) hj]
 simp [hj]
theorem originsOf_length (b : Book) (n : Nat) : (originsOf b n).length = b.rivers.length * (b.years.toNat + 1 - n) := by
 unfold originsOf
 generalize b.rivers.length = m
 induction m with
 | zero => simp
 | succ m ih => rw [List.range_succ, List.flatMap_append, List.length_append, ih]; simp [Nat.succ_mul]
/-- The variables that the iterator over origins leans on. -/
structure OrgEnv (b : Book) (rv sv : Value) (sb xb : Nat) (A : World) : Prop where
 s0 : A.cell? ⟨sb, 0, none⟩ = some (.int .i64 b.years)
 s1 : A.cell? ⟨sb, 1, none⟩ = some rv
 x0 : A.cell? ⟨xb, 0, none⟩ = some sv
theorem OrgEnv.touch {b : Book} {rv sv : Value} {sb xb : Nat} {A B : World} {M : Nat → Prop} (h : OrgEnv b rv sv sb xb A) (k : Touch M A B) (m1 : ¬ M sb) (m2 : ¬ M xb) : OrgEnv b rv sv sb xb B :=
 ⟨k.cell h.s0 m1, k.cell h.s1 m1, k.cell h.x0 m2⟩
def orgV (o : Org) : Value := .agg #[.int .i64 o.1, .int .i64 o.2]
set_option maxRecDepth 100000 in
set_option maxHeartbeats 4000000 in
theorem origins_iter (b : Book) (n : Nat) (ra sa : Option Addr) (rc sc sb xb : Nat) (O0 : Nat → Prop) (W : World) (hB : BookB b) (n1 : 1 ≤ n) (n2 : n ≤ 1000)
  (hE : OrgEnv b (.slice ra b.rivers.length rc) (.slice sa n sc) sb xb W) (m1 : ¬ O0 sb) (m2 : ¬ O0 xb) :
  Iter Tryz.prog 121 #[.pointer (some ⟨sb, 0, none⟩), .pointer (some ⟨xb, 0, none⟩)] (fun _ _ x v => v = orgV x) (originsOf b n) O0 W := by
 intro l J Jx hJ hJx hY h0 hO0
 have y1 := hB.y1
 have y2 := hB.y2
 have n3 := hB.n2
 obtain ⟨y, hyy⟩ : ∃ y : Nat, b.years = y := ⟨b.years.toNat, by omega⟩
 obtain ⟨m, hm⟩ : ∃ m, m = b.years.toNat + 1 - n := ⟨_, rfl⟩
 have hmy : m = y + 1 - n := by rw [hm, hyy]; simp
 have hy6 : 1 ≤ y ∧ y ≤ 6 := by omega
 have HYY := Lib.hid hyy
 have hsb := lt_of_cell hE.s0
 have hxb := lt_of_cell hE.x0
 have HJ := Lib.hid hJ
 have HY := Lib.hid hY
 have HM := Lib.hid hm
 clear hY hJ hm y1 y2
 refine callsIn_of_wp Tryz.func121 rfl trivial ?_ rfl
 simp only [Tryz.ntmps121, List.size_toArray, List.length_cons, List.length_nil, Nat.reduceAdd, Nat.reduceSub, Array.replicate_succ, Array.replicate_zero, List.push_toArray, List.append_toArray, List.nil_append, List.cons_append]
 have e1 := hE.s1
 clear hyy
 gi_wp2
 clear e1
 gi_loopw [10] (fun i wr => ∃ (r : Nat) (O : Nat → Prop), r ≤ b.rivers.length ∧ i = .int .i64 r ∧ J (r * m) O wr ∧ OrgEnv b (.slice ra b.rivers.length rc) (.slice sa n sc) sb xb wr ∧ (¬ O sb ∧ ¬ O xb ∧ ∀ i, O i → i < wr.heap.size) ∧ W.heap.size ≤ wr.heap.size) (fun i _ => b.rivers.length - (intOf i).toNat)
 case atStart => exact ⟨0, O0, Nat.zero_le _, rfl, by simpa using h0, hE, ⟨m1, m2, hO0⟩, Nat.le_refl _⟩
 case round =>
  obtain ⟨r, O, hr, rfl, hJw, hEw, hO, hsz⟩ := hrel
  by_cases hlt : r < b.rivers.length
  ·have x1 : decide ((r : Int) < (b.rivers.length : Int)) = true := by simpa using hlt
   have e2 := hEw.x0
   gi_wp2
   clear e2
   gi_loopw [5] (fun t wr' => ∃ (j : Nat) (O' : Nat → Prop), j ≤ m ∧ t = .int .i64 ((n : Int) - 1 + j) ∧ J (r * m + j) O' wr' ∧ OrgEnv b (.slice ra b.rivers.length rc) (.slice sa n sc) sb xb wr' ∧ (¬ O' sb ∧ ¬ O' xb ∧ ∀ i, O' i → i < wr'.heap.size) ∧ W.heap.size ≤ wr'.heap.size) (fun t _ => y + 1 - (intOf t).toNat)
   case atStart => exact ⟨0, O, Nat.zero_le _, by go_num, by simpa using hJw, hEw, hO, hsz⟩
   case round =>
    clear hJw hEw hO hsz O
    obtain ⟨j, O, hj, rfl, hJw, hEw, hO, hsz⟩ := hrel
    have e0 := hEw.s0
    rw [HYY.out] at e0
    by_cases hjl : j < m
    ·have x2 : decide ((n : Int) - 1 + (j : Int) < (y : Int)) = true := by simp; omega
     have hat := originsOf_at (b := b) (n := n) (r := r) (j := j) hlt (by rw [← HM.out]; exact hjl)
     rw [← HM.out] at hat
     have hyv := HY.out _ _ (orgV ((r : Int), ((n - 1 + j : Nat) : Int))) wr O hJw hat rfl hsz hO.2.2
     have hcast : (((n - 1 + j : Nat) : Int)) = (n : Int) - 1 + (j : Int) := by omega
     rw [hcast] at hyv
     obtain ⟨fn, tmps, assign, body, hy, hRd⟩ := hyv
     unfold orgV at hy
     simp only at hy
     have HEND := Lib.hid (fun (A' : World) (b' : Bool) (h : YRes O (J (r * m + j + 1)) Jx wr (.returned (.bool b')) A') => (by
      obtain ⟨b2, O', he, ht, ho, h1, h2⟩ := h
      cases he
      exact ⟨fun hb => ⟨O', h1 hb, hEw.touch ht hO.1 hO.2.1, ⟨fun h => (ho _ h).1.elim hO.1 (fun h' => by omega), fun h => (ho _ h).1.elim hO.2.1 (fun h' => by omega), fun i h => (ho i h).2⟩, Nat.le_trans hsz ht.size⟩, h2⟩ :
      (b' = true → ∃ O', J (r * m + j + 1) O' A' ∧ OrgEnv b (.slice ra b.rivers.length rc) (.slice sa n sc) sb xb A' ∧ (¬ O' sb ∧ ¬ O' xb ∧ ∀ i, O' i → i < A'.heap.size) ∧ W.heap.size ≤ A'.heap.size) ∧ (b' = false → Jx A')))
     clear hat hJw hEw hO hcast
     gi_wp2_with (refine RoundIn.mono hRd ?_; rintro e w4 ⟨b', O', rfl, hpost⟩)
     all_goals (have hpp := HEND.out w4 b' ⟨b', O', rfl, hpost⟩)
     ·refine bodyPost_ret (results_none rfl _ _ _) rfl ?_
      exact ⟨⟨_, rfl⟩, .inr (hpp.2 (by first | assumption | (cases b' <;> simp_all)))⟩
     ·obtain ⟨O2, he1, he2, he3, he4⟩ := hpp.1 (by first | assumption | (cases b' <;> simp_all))
      exact ⟨⟨j + 1, O2, by omega, by go_num, he1, he2, he3, he4⟩, by simp [intOf]; omega⟩
    ·have x2 : decide ((n : Int) - 1 + (j : Int) < (y : Int)) = false := by simp; omega
     have hje : j = m := by omega
     have HN := Lib.hid (show J ((r + 1) * m) O wr by rw [Nat.succ_mul, ← hje]; rw [← hje] at hJw; exact hJw)
     clear hje hJw
     gi_wp2
     exact ⟨⟨r + 1, O, by omega, by go_num, HN.out, hEw, hO, hsz⟩, by simp [intOf]; omega⟩
  ·have x1 : decide ((r : Int) < (b.rivers.length : Int)) = false := by simpa using hlt
   have hre : r = b.rivers.length := by omega
   have HN := Lib.hid (show J (originsOf b n).length O wr by rw [originsOf_length, ← HM.out, ← hre]; exact hJw)
   clear hre hJw
   gi_wp2
   go_end0
   exact ⟨⟨_, rfl⟩, .inl ⟨O, HN.out⟩⟩
end Go.Proofs.YtiodjapdiflphaaGreatDoor
/- narrow: what two spans have in common, or the panic. -/
namespace Go.Proofs.YtiodjapdiflphaaGreatDoor
open Go.RowKit
/-- A block of two cells that may be written. -/
structure Box2 (w : World) (b : Nat) (x y : Value) : Prop where
 c0 : w.cell? ⟨b, 0, none⟩ = some x
 c1 : w.cell? ⟨b, 1, none⟩ = some y
 f0 : w.frozen? ⟨b, 0, none⟩ = false
 f1 : w.frozen? ⟨b, 1, none⟩ = false
theorem Box2.ext {w w' : World} {b : Nat} {x y : Value} (h : Box2 w b x y) (k : Ext w w') : Box2 w' b x y :=
 ⟨k.cell h.c0, k.cell h.c1, (k.frozen (lt_of_cell h.c0)).trans h.f0, (k.frozen (lt_of_cell h.c1)).trans h.f1⟩
theorem Box2.touch {w w' : World} {b : Nat} {x y : Value} {M : Nat → Prop} (h : Box2 w b x y) (k : Touch M w w') (hm : ¬ M b) : Box2 w' b x y :=
 ⟨k.cell h.c0 hm, k.cell h.c1 hm, (k.frozen h.c0 hm).trans h.f0, (k.frozen h.c1 hm).trans h.f1⟩
theorem Box2.new (w : World) (x y : Value) (t : TypeId) : Box2 (w.alloc (.cells #[x, y] t)) w.heap.size x y := ⟨by go_simp, by go_simp, by go_simp, by go_simp⟩
theorem Box2.lt {w : World} {b : Nat} {x y : Value} (h : Box2 w b x y) : b < w.heap.size := lt_of_cell h.c0
theorem Box2.set {w : World} {b : Nat} {x y : Value} (h : Box2 w b x y) (x' y' : Value) : Box2 ((w.setCell ⟨b, 0, none⟩ x').setCell ⟨b, 1, none⟩ y') b x' y' := by
 obtain ⟨h1, h2, h3, h4⟩ := h
 exact ⟨by go_simp, by go_simp, by go_simp, by go_simp⟩
theorem Box2.other {w : World} {b : Nat} {x y : Value} (h : Box2 w b x y) {b' : Nat} (hb : b ≠ b') (x' y' : Value) : Box2 ((w.setCell ⟨b', 0, none⟩ x').setCell ⟨b', 1, none⟩ y') b x y := by
 have ht : Touch (· = b') w ((w.setCell ⟨b', 0, none⟩ x').setCell ⟨b', 1, none⟩ y') := ((Touch.refl _ w).trans (Touch.setCell _ (by rfl))).trans (Touch.setCell _ (by rfl))
 exact h.touch ht hb
def meet2 (p q : Int × Int) : Int × Int := (max p.1 q.1, min p.2 q.2)
def contraV (r y : Int) : Value := .iface 198 (.agg #[.int .i64 r, .int .i64 y])
def spanV (s : Int × Int) : Value := .agg #[.int .i64 s.1, .int .i64 s.2]
def NarrowPost (r y : Int) (m : Int × Int) (w : World) (e : Ending) (w' : World) : Prop :=
 Ext w w' ∧ e = if m.2 < m.1 then .panicked [{ v := contraV r y, recovered := false }] else .returned (spanV m)
set_option maxRecDepth 100000 in
set_option maxHeartbeats 4000000 in
theorem narrow_any (lv : Value) (r y : Int) (p q : Int × Int) (w : World) (hl : PairsAt w lv [p, q]) :
  Calls Tryz.prog 126 #[.int .i64 r, .int .i64 y, lv] w (NarrowPost r y (meet2 p q) w) := by
 obtain ⟨a, c, rfl, h1, h2, h3⟩ := hl.open
 obtain ⟨b, o, x, rfl, hx0, p0, p1⟩ := h3 0 (by simp)
 obtain ⟨b', o', x', hbb, hx1, q0, q1⟩ := h3 1 (by simp)
 cases hbb
 have e0 : x = p := by have := hx0.out; simpa using this.symm
 have e1 : x' = q := by have := hx1.out; simpa using this.symm
 subst e0 e1
 have HP := Lib.hid (fun W (h : Ext w W) => (⟨h.cell p0, h.cell p1, h.cell q0, h.cell q1⟩ : W.cell? ⟨b, o + 0 * 2, none⟩ = some (.int .i64 x.1) ∧ W.cell? ⟨b, o + 0 * 2 + 1, none⟩ = some (.int .i64 x.2) ∧ W.cell? ⟨b, o + 1 * 2, none⟩ = some (.int .i64 x'.1) ∧ W.cell? ⟨b, o + 1 * 2 + 1, none⟩ = some (.int .i64 x'.2)))
 simp only [Nat.zero_mul, Nat.add_zero, Nat.one_mul, List.length_cons, List.length_nil, Nat.zero_add, Nat.reduceAdd] at HP ⊢ h1
 have hx0' := (Ext.refl w).alloc (.cells #[.int .i64 0, .int .i64 0] 52)
 obtain ⟨s0, s1, s2, s3⟩ := HP.out _ hx0'
 clear hx0 hx1 h3 hl p0 p1 q0 q1
 go_enter Tryz.func126, Tryz.ntmps126
 go_wp2
 go_loopw [15] (fun i wr => ∃ (k : Nat) (m : Int × Int), k ≤ 2 ∧ i = .int .i64 k ∧ Ext w wr ∧ Box2 wr w.heap.size (.int .i64 0) (.int .i64 0) ∧ Box2 wr (w.heap.size + 1) (.int .i64 m.1) (.int .i64 m.2) ∧ Hid (m = if k = 2 then meet2 x x' else x)) (fun i _ => 2 - (intOf i).toNat)
 case atStart => exact ⟨0, x, by omega, rfl, ((Ext.refl w).alloc _).alloc _, (Box2.new w _ _ _).ext ((Ext.refl _).alloc _), (by have := Box2.new (w.alloc (.cells #[.int .i64 0, .int .i64 0] 52)) (.int .i64 x.1) (.int .i64 x.2) 52; simpa using this), (by simp [Hid])⟩
 case round =>
  obtain ⟨k, m, hk, rfl, hx, hb0, hb1, hm⟩ := hrel
  have hlt := hb1.lt
  clear hx0' s0 s1 s2 s3
  obtain ⟨s0, s1, s2, s3⟩ := HP.out _ hx
  have hk3 : k = 0 ∨ k = 1 ∨ k = 2 := by omega
  rcases hk3 with rfl | rfl | rfl
  ·rw [show ((0 : Nat) : Int) = 0 from rfl]
   have hmx : m = x := by simpa [Hid] using hm
   subst hmx
   have HS := Lib.hid (fun (z : Int × Int) => (⟨(hb0.other (b' := w.heap.size + 1) (by omega) (.int .i64 z.1) (.int .i64 z.2)), (hb1.set (.int .i64 z.1) (.int .i64 z.2)), (hx.setCell (p := ⟨w.heap.size + 1, 0, none⟩) (by simp) (.int .i64 z.1)).setCell (p := ⟨w.heap.size + 1, 1, none⟩) (by simp) (.int .i64 z.2)⟩ : _ ∧ _ ∧ _))
   obtain ⟨u0, u1, g0, g1⟩ := hb1.ext ((Ext.refl wr).alloc (.cells #[.int .i64 m.1, .int .i64 m.2] 52))
   obtain ⟨u2, u3, g2, g3⟩ := hb1
   clear hb0 hm
   go_wp2
   obtain ⟨k1, k2, k3⟩ := HS.out m
   exact ⟨⟨1, m, by omega, rfl, k3.alloc _, k1.ext ((Ext.refl _).alloc _), k2.ext ((Ext.refl _).alloc _), by simp [Hid]⟩, by simp [intOf]⟩
  ·rw [show ((1 : Nat) : Int) = 1 from rfl]
   have hmx : m = x := by simpa [Hid] using hm
   subst hmx
   have HS := Lib.hid (fun (z : Int × Int) => (⟨(hb0.other (b' := w.heap.size + 1) (by omega) (.int .i64 z.1) (.int .i64 z.2)), (hb1.set (.int .i64 z.1) (.int .i64 z.2)), (hx.setCell (p := ⟨w.heap.size + 1, 0, none⟩) (by simp) (.int .i64 z.1)).setCell (p := ⟨w.heap.size + 1, 1, none⟩) (by simp) (.int .i64 z.2)⟩ : _ ∧ _ ∧ _))
   obtain ⟨u0, u1, g0, g1⟩ := hb1.ext ((Ext.refl wr).alloc (.cells #[.int .i64 x'.1, .int .i64 x'.2] 52))
   obtain ⟨u2, u3, g2, g3⟩ := hb1
   clear hb0 hm
   go_wp2
   obtain ⟨k1, k2, k3⟩ := HS.out (if m.1 < x'.1 then x'.1 else m.1, if x'.2 < m.2 then x'.2 else m.2)
   exact ⟨⟨2, (if m.1 < x'.1 then x'.1 else m.1, if x'.2 < m.2 then x'.2 else m.2), by omega, rfl, k3.alloc _, k1.ext ((Ext.refl _).alloc _), k2.ext ((Ext.refl _).alloc _), by unfold Hid meet2; rw [if_pos rfl]; exact Prod.ext (by simp only []; split <;> omega) (by simp only []; split <;> omega)⟩, by simp [intOf]⟩
  ·have hmx : m = meet2 x x' := by simpa [Hid] using hm
   have HMX := Lib.hid hmx
   have HX := Lib.hid hx
   have HB0 := Lib.hid hb0
   obtain ⟨v0, v1, i0, i1⟩ := hb0
   obtain ⟨u2, u3, g2, g3⟩ := hb1
   clear hm hx hmx HP
   by_cases hlt2 : m.2 < m.1
   ·have t1 : decide (m.2 < m.1) = true := by simpa using hlt2
    go_wp2
    exact ⟨rfl, HX.out, by rw [← HMX.out, if_pos hlt2]; rfl⟩
   ·have t1 : decide (m.2 < m.1) = false := by simpa using hlt2
    have hfin := HB0.out.set (.int .i64 m.1) (.int .i64 m.2)
    obtain ⟨w0, w1, _, _⟩ := hfin
    go_wp2
    refine bodyPost_ret (v := spanV m) (by simp [results, Tryz.results126, go_sem, spanV, *]) rfl ⟨(HX.out.setCell (by simp) _).setCell (by simp) _, by rw [← HMX.out, if_neg (by omega)]⟩
end Go.Proofs.YtiodjapdiflphaaGreatDoor
/- slices.Clone at the types of the layer river. -/
namespace Go.Proofs.YtiodjapdiflphaaGreatDoor
open Go.RowKit
def ClonePost (w : World) (e' : TypeId) (size n : Nat) (cs : List Value) (e : Ending) (w' : World) : Prop := ∃ v, e = .returned v ∧ w'.ownsRow w.heap.size e' size v n cs ∧ Ext w w'
theorem E_pairs : Elem Tryz.prog 46 84 2 16 (.agg #[.int .i64 0, .int .i64 0]) := by
 obtain ⟨i, h1, h2, h3, h4⟩ := info_parts (P := Tryz.prog) (e := 84) (z := .agg #[.int .i64 0, .int .i64 0]) (size := 2) (bytes := 16) (by kernel_rfl)
 exact ⟨Tryz.underlying46, ⟨i, h1, h2, h3, h4⟩, rfl, by decide⟩
set_option maxRecDepth 100000 in
theorem clone_pairs (v : Value) (n : Nat) (cs : List Value) (w : World) (hv : RowAt w v n cs) (hn : cs.length = n * 2) (hone : ∀ u, u ∈ cs → u.oneCell' = true) (hl : n ≤ 1000000) :
  Calls Tryz.prog 124 #[v] w (ClonePost w 84 2 n cs) := by
 have hv' := hv.ext ((Ext.refl w).alloc (.cells #[] 84))
 obtain ⟨a, c, rfl, h1, h2, h0, _⟩ := hv
 cases a with
 | none =>
  obtain rfl := h0 rfl
  obtain rfl : n = 0 := by omega
  have hx : cs = [] := by simpa using hn
  subst hx
  have hfin : ClonePost w 84 2 0 [] (.returned (.slice none 0 0)) w := ⟨_, rfl, World.ownsRow_nil _ _ _ _, Ext.refl _⟩
  have HF := Lib.hid hfin
  clear hfin hv' hone hn h0
  have heq := fun w1 => Lib.run_eql_slice_nil (P := Tryz.prog) w1 46 84 none 0 0 0 0 Tryz.underlying46
  go_enter Tryz.func124, Tryz.ntmps124
  go_wp2
  go_ret
  exact HF.out
 | some ad =>
  have heq := fun w1 => Lib.run_eql_slice_nil (P := Tryz.prog) w1 46 84 (some ad) n c 0 0 Tryz.underlying46
  have hown := World.ownsRow_lit (base := w.heap.size) (e := 84) (size := 2) w #[] 0 (Nat.le_refl _) (Nat.zero_le _) rfl
  have HV := Lib.hid hv'
  have HO := Lib.hid hown
  have HN := Lib.hid hone
  have HL := Lib.hid hn
  clear hv' hown hone hn
  go_enter Tryz.func124, Tryz.ntmps124
  go_wp2_with (at_builtin; refine wpList_append_row E_pairs rfl _ _ rfl w.heap.size rfl HO.out rfl HV.out HL.out HN.out ?_ ?c1 ?c2 ?c3; intro v' w2 hown' hgrow _)
  case c1 => unfold maxLen; omega
  case c2 => omega
  try (case c3 => simp)
  go_ret
  exact ⟨_, rfl, by simpa using hown', Ext.grown ((Ext.refl w).alloc _) hgrow (fun k hk => by cases hk; exact Nat.le_refl _)⟩
theorem E_spans : Elem Tryz.prog 60 52 2 16 (.agg #[.int .i64 0, .int .i64 0]) := by
 obtain ⟨i, h1, h2, h3, h4⟩ := info_parts (P := Tryz.prog) (e := 52) (z := .agg #[.int .i64 0, .int .i64 0]) (size := 2) (bytes := 16) (by kernel_rfl)
 exact ⟨Tryz.underlying60, ⟨i, h1, h2, h3, h4⟩, rfl, by decide⟩
set_option maxRecDepth 100000 in
theorem clone_spans (v : Value) (n : Nat) (cs : List Value) (w : World) (hv : RowAt w v n cs) (hn : cs.length = n * 2) (hone : ∀ u, u ∈ cs → u.oneCell' = true) (hl : n ≤ 1000000) :
  Calls Tryz.prog 51 #[v] w (ClonePost w 52 2 n cs) := by
 have hv' := hv.ext ((Ext.refl w).alloc (.cells #[] 52))
 obtain ⟨a, c, rfl, h1, h2, h0, _⟩ := hv
 cases a with
 | none =>
  obtain rfl := h0 rfl
  obtain rfl : n = 0 := by omega
  have hx : cs = [] := by simpa using hn
  subst hx
  have hfin : ClonePost w 52 2 0 [] (.returned (.slice none 0 0)) w := ⟨_, rfl, World.ownsRow_nil _ _ _ _, Ext.refl _⟩
  have HF := Lib.hid hfin
  clear hfin hv' hone hn h0
  have heq := fun w1 => Lib.run_eql_slice_nil (P := Tryz.prog) w1 60 52 none 0 0 0 0 Tryz.underlying60
  go_enter Tryz.func51, Tryz.ntmps51
  go_wp2
  go_ret
  exact HF.out
 | some ad =>
  have heq := fun w1 => Lib.run_eql_slice_nil (P := Tryz.prog) w1 60 52 (some ad) n c 0 0 Tryz.underlying60
  have hown := World.ownsRow_lit (base := w.heap.size) (e := 52) (size := 2) w #[] 0 (Nat.le_refl _) (Nat.zero_le _) rfl
  have HV := Lib.hid hv'
  have HO := Lib.hid hown
  have HN := Lib.hid hone
  have HL := Lib.hid hn
  clear hv' hown hone hn
  go_enter Tryz.func51, Tryz.ntmps51
  go_wp2_with (at_builtin; refine wpList_append_row E_spans rfl _ _ rfl w.heap.size rfl HO.out rfl HV.out HL.out HN.out ?_ ?c1 ?c2 ?c3; intro v' w2 hown' hgrow _)
  case c1 => unfold maxLen; omega
  case c2 => omega
  try (case c3 => simp)
  go_ret
  exact ⟨_, rfl, by simpa using hown', Ext.grown ((Ext.refl w).alloc _) hgrow (fun k hk => by cases hk; exact Nat.le_refl _)⟩
theorem E_rows : Elem Tryz.prog 36 60 1 24 (.slice none 0 0) := by
 obtain ⟨i, h1, h2, h3, h4⟩ := info_parts (P := Tryz.prog) (e := 60) (z := .slice none 0 0) (size := 1) (bytes := 24) (by kernel_rfl)
 exact ⟨Tryz.underlying36, ⟨i, h1, h2, h3, h4⟩, rfl, by decide⟩
set_option maxRecDepth 100000 in
theorem clone_rows (v : Value) (n : Nat) (cs : List Value) (w : World) (hv : RowAt w v n cs) (hn : cs.length = n * 1) (hone : ∀ u, u ∈ cs → u.oneCell' = true) (hl : n ≤ 1000000) :
  Calls Tryz.prog 125 #[v] w (ClonePost w 60 1 n cs) := by
 have hv' := hv.ext ((Ext.refl w).alloc (.cells #[] 60))
 obtain ⟨a, c, rfl, h1, h2, h0, _⟩ := hv
 cases a with
 | none =>
  obtain rfl := h0 rfl
  obtain rfl : n = 0 := by omega
  have hx : cs = [] := by simpa using hn
  subst hx
  have hfin : ClonePost w 60 1 0 [] (.returned (.slice none 0 0)) w := ⟨_, rfl, World.ownsRow_nil _ _ _ _, Ext.refl _⟩
  have HF := Lib.hid hfin
  clear hfin hv' hone hn h0
  have heq := fun w1 => Lib.run_eql_slice_nil (P := Tryz.prog) w1 36 60 none 0 0 0 0 Tryz.underlying36
  go_enter Tryz.func125, Tryz.ntmps125
  go_wp2
  go_ret
  exact HF.out
 | some ad =>
  have heq := fun w1 => Lib.run_eql_slice_nil (P := Tryz.prog) w1 36 60 (some ad) n c 0 0 Tryz.underlying36
  have hown := World.ownsRow_lit (base := w.heap.size) (e := 60) (size := 1) w #[] 0 (Nat.le_refl _) (Nat.zero_le _) rfl
  have HV := Lib.hid hv'
  have HO := Lib.hid hown
  have HN := Lib.hid hone
  have HL := Lib.hid hn
  clear hv' hown hone hn
  go_enter Tryz.func125, Tryz.ntmps125
  go_wp2_with (at_builtin; refine wpList_append_row E_rows rfl _ _ rfl w.heap.size rfl HO.out rfl HV.out HL.out HN.out ?_ ?c1 ?c2 ?c3; intro v' w2 hown' hgrow _)
  case c1 => unfold maxLen; omega
  case c2 => omega
  try (case c3 => simp)
  go_ret
  exact ⟨_, rfl, by simpa using hown', Ext.grown ((Ext.refl w).alloc _) hgrow (fun k hk => by cases hk; exact Nat.le_refl _)⟩
theorem E_ints : Elem Tryz.prog 63 3 1 8 (.int .i64 0) := by
 obtain ⟨i, h1, h2, h3, h4⟩ := info_parts (P := Tryz.prog) (e := 3) (z := .int .i64 0) (size := 1) (bytes := 8) (by kernel_rfl)
 exact ⟨Tryz.underlying63, ⟨i, h1, h2, h3, h4⟩, rfl, by decide⟩
set_option maxRecDepth 100000 in
theorem clone_ints (v : Value) (n : Nat) (cs : List Value) (w : World) (hv : RowAt w v n cs) (hn : cs.length = n * 1) (hone : ∀ u, u ∈ cs → u.oneCell' = true) (hl : n ≤ 1000000) :
  Calls Tryz.prog 106 #[v] w (ClonePost w 3 1 n cs) := by
 have hv' := hv.ext ((Ext.refl w).alloc (.cells #[] 3))
 obtain ⟨a, c, rfl, h1, h2, h0, _⟩ := hv
 cases a with
 | none =>
  obtain rfl := h0 rfl
  obtain rfl : n = 0 := by omega
  have hx : cs = [] := by simpa using hn
  subst hx
  have hfin : ClonePost w 3 1 0 [] (.returned (.slice none 0 0)) w := ⟨_, rfl, World.ownsRow_nil _ _ _ _, Ext.refl _⟩
  have HF := Lib.hid hfin
  clear hfin hv' hone hn h0
  have heq := fun w1 => Lib.run_eql_slice_nil (P := Tryz.prog) w1 63 3 none 0 0 0 0 Tryz.underlying63
  go_enter Tryz.func106, Tryz.ntmps106
  go_wp2
  go_ret
  exact HF.out
 | some ad =>
  have heq := fun w1 => Lib.run_eql_slice_nil (P := Tryz.prog) w1 63 3 (some ad) n c 0 0 Tryz.underlying63
  have hown := World.ownsRow_lit (base := w.heap.size) (e := 3) (size := 1) w #[] 0 (Nat.le_refl _) (Nat.zero_le _) rfl
  have HV := Lib.hid hv'
  have HO := Lib.hid hown
  have HN := Lib.hid hone
  have HL := Lib.hid hn
  clear hv' hown hone hn
  go_enter Tryz.func106, Tryz.ntmps106
  go_wp2_with (at_builtin; refine wpList_append_row E_ints rfl _ _ rfl w.heap.size rfl HO.out rfl HV.out HL.out HN.out ?_ ?c1 ?c2 ?c3; intro v' w2 hown' hgrow _)
  case c1 => unfold maxLen; omega
  case c2 => omega
  try (case c3 => simp)
  go_ret
  exact ⟨_, rfl, by simpa using hown', Ext.grown ((Ext.refl w).alloc _) hgrow (fun k hk => by cases hk; exact Nat.le_refl _)⟩
end Go.Proofs.YtiodjapdiflphaaGreatDoor
/- States: how they lie in memory; closed, tested, begin. -/
namespace Go.Proofs.YtiodjapdiflphaaGreatDoor
open Go.RowKit
/-! ### Off some blocks -/
def OffV (M : Nat → Prop) (v : Value) : Prop := ∀ a n c, v = .slice (some a) n c → ¬ M a.block
theorem OffV.nil (M : Nat → Prop) : OffV M (.slice none 0 0) := fun _ _ _ h => by cases h
theorem OffV.less {M N : Nat → Prop} {v : Value} (h : OffV M v) (hm : ∀ i, N i → M i) : OffV N v := fun a n c hv hn => h a n c hv (hm _ hn)
theorem RowAt.touch {M : Nat → Prop} {A B : World} {v : Value} {n : Nat} {cs : List Value} (h : RowAt A v n cs) (k : Touch M A B) (hm : OffV M v) : RowAt B v n cs := by
 obtain ⟨a, c, rfl, h1, h2, h0, h3⟩ := h
 exact ⟨a, c, rfl, h1, h2, h0, fun j u hj => by
  obtain ⟨b, o, rfl, hc⟩ := h3 j u hj
  exact ⟨b, o, rfl, k.cell hc (hm ⟨b, o, none⟩ _ _ rfl)⟩⟩
def PairsOff (M : Nat → Prop) (w : World) (v : Value) (xs : List (Int × Int)) : Prop := PairsAt w v xs ∧ OffV M v
theorem PairsOff.touch {M : Nat → Prop} {A B : World} {v : Value} {xs : List (Int × Int)} (h : PairsOff M A v xs) (k : Touch M A B) : PairsOff M B v xs := ⟨RowAt.touch h.1 k h.2, h.2⟩
theorem PairsOff.ext {M : Nat → Prop} {A B : World} {v : Value} {xs : List (Int × Int)} (h : PairsOff M A v xs) (k : Ext A B) : PairsOff M B v xs := ⟨h.1.ext k, h.2⟩
theorem PairsOff.less {M N : Nat → Prop} {w : World} {v : Value} {xs : List (Int × Int)} (h : PairsOff M w v xs) (hm : ∀ i, N i → M i) : PairsOff N w v xs := ⟨h.1, h.2.less hm⟩
/-- Rows of spans, none of whose arrays lies in M. -/
def SpansOff (M : Nat → Prop) (w : World) (v : Value) (xss : List (List (Int × Int))) : Prop :=
 ∃ vs : List Value, vs.length = xss.length ∧ RowAt w v xss.length vs ∧ OffV M v ∧ ∀ (i : Nat) (x : Value) (xs : List (Int × Int)), vs[i]? = some x → xss[i]? = some xs → PairsOff M w x xs
theorem SpansOff.touch {M : Nat → Prop} {A B : World} {v : Value} {xss : List (List (Int × Int))} (h : SpansOff M A v xss) (k : Touch M A B) : SpansOff M B v xss := by
 obtain ⟨vs, h1, h2, h3, h4⟩ := h
 exact ⟨vs, h1, h2.touch k h3, h3, fun i x xs hx hxs => (h4 i x xs hx hxs).touch k⟩
theorem SpansOff.ext {M : Nat → Prop} {A B : World} {v : Value} {xss : List (List (Int × Int))} (h : SpansOff M A v xss) (k : Ext A B) : SpansOff M B v xss := by
 obtain ⟨vs, h1, h2, h3, h4⟩ := h
 exact ⟨vs, h1, h2.ext k, h3, fun i x xs hx hxs => (h4 i x xs hx hxs).ext k⟩
theorem SpansOff.less {M N : Nat → Prop} {w : World} {v : Value} {xss : List (List (Int × Int))} (h : SpansOff M w v xss) (hm : ∀ i, N i → M i) : SpansOff N w v xss := by
 obtain ⟨vs, h1, h2, h3, h4⟩ := h
 exact ⟨vs, h1, h2, h3.less hm, fun i x xs hx hxs => (h4 i x xs hx hxs).less hm⟩
theorem SpansOff.nil (M : Nat → Prop) (w : World) : SpansOff M w (.slice none 0 0) [] := ⟨[], rfl, RowAt.nil w, OffV.nil M, fun i x xs h => by simp at h⟩
theorem SpansOff.one {M : Nat → Prop} {A : World} {xss : List (List (Int × Int))} {vs : List Value} (hl : vs.length = xss.length) (h4 : ∀ (i : Nat) (x : Value) (xs : List (Int × Int)), vs[i]? = some x → xss[i]? = some xs → PairsOff M A x xs) : ∀ u, u ∈ vs → u.oneCell' = true := by
 intro u hu
 obtain ⟨i, hi, rfl⟩ := List.mem_iff_getElem.1 hu
 obtain ⟨a, k, hv, _⟩ := (h4 i vs[i] (xss[i]'(by omega)) (by simp) (by simp)).1.open
 rw [hv]; rfl
theorem pairs_one (xs : List (Int × Int)) : ∀ u, u ∈ xs.flatMap pairC → u.oneCell' = true := by
 intro u hu
 obtain ⟨x, _, h⟩ := List.mem_flatMap.1 hu
 simp only [pairC, List.mem_cons, List.not_mem_nil, or_false] at h
 rcases h with rfl | rfl <;> rfl
theorem pairs_len (xs : List (Int × Int)) : (xs.flatMap pairC).length = xs.length * 2 := by
 induction xs with
 | nil => rfl
 | cons x xs ih => rw [List.flatMap_cons, List.length_append, ih]; simp [pairC]; omega
/-- What the call owns reads as a list, off whatever lies below its base. -/
theorem PairsOff.of_owns {w : World} {base : Nat} {e : TypeId} {v : Value} {xs : List (Int × Int)} {M : Nat → Prop} (h : w.ownsRow base e 2 v xs.length (xs.flatMap pairC)) (hm : ∀ i, M i → i < base) : PairsOff M w v xs :=
 ⟨RowAt.of_owns h, fun a n c hv hM => by
  have := owns_block h a.block (by rw [hv]; rfl)
  have := hm _ hM
  omega⟩
def StateOff (M : Nat → Prop) (w : World) (x : State) (v : Value) : Prop := ∃ ov wv, v = .agg #[ov, wv] ∧ PairsOff M w ov x.org ∧ SpansOff M w wv x.wea
theorem StateOff.touch {M : Nat → Prop} {A B : World} {v : Value} {x : State} (h : StateOff M A x v) (k : Touch M A B) : StateOff M B x v := by
 obtain ⟨ov, wv, h1, h2, h3⟩ := h; exact ⟨ov, wv, h1, h2.touch k, h3.touch k⟩
theorem StateOff.ext {M : Nat → Prop} {A B : World} {v : Value} {x : State} (h : StateOff M A x v) (k : Ext A B) : StateOff M B x v := by
 obtain ⟨ov, wv, h1, h2, h3⟩ := h; exact ⟨ov, wv, h1, h2.ext k, h3.ext k⟩
theorem StateOff.less {M N : Nat → Prop} {w : World} {v : Value} {x : State} (h : StateOff M w x v) (hm : ∀ i, N i → M i) : StateOff N w x v := by
 obtain ⟨ov, wv, h1, h2, h3⟩ := h; exact ⟨ov, wv, h1, h2.less hm, h3.less hm⟩
/-! ### closed -/
/-- A sack with its book, as a value. -/
def sackV (b : Book) (rv sv tv : Value) : Value := .agg #[.int .i64 b.years, rv, sv, tv]
def IsSlice (v : Value) : Prop := ∃ a n c, v = .slice a n c
theorem closedB_nat {b : Book} {r y : Nat} {R : River} {c : Nat} (h : b.rivers[r]? = some R) (hc : R.closed = c) : closedB b ((r : Int), (y : Int)) = c.testBit y := by
 unfold closedB hasB; rw [riverOf_at h, hc]; simp
set_option maxRecDepth 100000 in
set_option maxHeartbeats 1000000 in
theorem closed_any (b : Book) (rv sv tv : Value) (r y : Nat) (w : World) (hB : BookB b) (hr : RiversAt w rv b.rivers) (hs : IsSlice sv) (ht : IsSlice tv) (h1 : r < b.rivers.length) (h2 : (y : Int) < b.years) :
  Calls Tryz.prog 70 #[sackV b rv sv tv, .agg #[.int .i64 r, .int .i64 y]] w fun e w' => e = .returned (.bool (closedB b ((r : Int), (y : Int)))) ∧ Ext w w' := by
 obtain ⟨sa, sn, sc, rfl⟩ := hs
 obtain ⟨ta, tn, tc, rfl⟩ := ht
 obtain ⟨ra, rc, rfl, r1, r2, r3⟩ := hr.open
 obtain ⟨rb, ro, gv, R, rfl, hR, d0, d1, d2, hg⟩ := r3 r h1
 have hcl := hB.closed R (List.mem_of_getElem? hR.out)
 have hy6 := hB.y2
 have hp : (2 : Int) ^ b.years.toNat ≤ 64 := by
  have h := hB.y1
  rcases (by omega : b.years.toNat = 1 ∨ b.years.toNat = 2 ∨ b.years.toNat = 3 ∨ b.years.toNat = 4 ∨ b.years.toNat = 5 ∨ b.years.toNat = 6) with h | h | h | h | h | h <;> rw [h] <;> decide
 obtain ⟨c, hc⟩ : ∃ c : Nat, R.closed = c := ⟨R.closed.toNat, by omega⟩
 rw [closedB_nat hR.out hc]
 rw [hc] at d2
 have hc64 : c < 64 := by omega
 have hx := ((Ext.refl w).alloc (.cells #[.int .i64 b.years, .slice (some ⟨rb, ro, none⟩) b.rivers.length rc, .slice sa sn sc, .slice ta tn tc] 89)).alloc (.cells #[.int .i64 r, .int .i64 y] 84)
 have q2 := hx.cell d2
 have HH := Lib.hid (fun w1 => (has_any c y w1 (by omega) (by omega)).mono (R' := fun e w' => e = .returned (.bool (c.testBit y)) ∧ w' = w1) (fun e w' h => ⟨h.1, h.2.symm⟩))
 have i1 : (0 : Int) ≤ (r : Int) := by omega
 have i2 : (r : Int) < (b.rivers.length : Int) := by omega
 have hmix : Tryz.prog.follows .mixedOrders = true := by kernel_rfl
 have HX := Lib.hid hx
 clear r3 d0 d1 d2 hg hr hB hp hcl hc hx
 unfold sackV
 go_enter Tryz.func70, Tryz.ntmps70
 go_wp2
 go_quiet ((go_at_call 74; exact Calls.quiet_of_same (HH.out _)))
 go_wp2
 go_ret
 exact ⟨rfl, HX.out.drewN _⟩
end Go.Proofs.YtiodjapdiflphaaGreatDoor
/- Appending: where the new slice lies; rows of spans that the call owns. -/
namespace Go.Proofs.YtiodjapdiflphaaGreatDoor
open Go.RowKit
theorem owns_ext {w w' : World} {base : Nat} {e : TypeId} {size : Nat} {v : Value} {n : Nat} {xs : List Value} (h : w.ownsRow base e size v n xs) (k : Ext w w') : w'.ownsRow base e size v n xs := by
 obtain ⟨h1, ⟨rfl, rfl⟩ | ⟨g, cap, cur, hv, hg1, hh, r⟩⟩ := h
 ·exact ⟨h1, .inl ⟨rfl, rfl⟩⟩
 ·exact ⟨h1, .inr ⟨g, cap, cur, hv, hg1, (k.block (Array.getElem?_eq_some_iff.1 hh).1).trans hh, r⟩⟩
theorem owns_touch {M : Nat → Prop} {w w' : World} {base : Nat} {e : TypeId} {size : Nat} {v : Value} {n : Nat} {xs : List Value} (h : w.ownsRow base e size v n xs) (k : Touch M w w') (hn : ∀ g, v.ownBlock = some g → ¬ M g) : w'.ownsRow base e size v n xs := by
 obtain ⟨h1, h2⟩ := h
 refine ⟨h1, ?_⟩
 rcases h2 with h2 | ⟨g, cap, cur, rfl, hg, hh, rest⟩
 ·exact .inl h2
 ·exact .inr ⟨g, cap, cur, rfl, hg, k.keep g _ hh (hn g rfl), rest⟩
theorem owns_head {W : World} {base : Nat} {e : TypeId} {size : Nat} {v : Value} {k : Nat} {xs : List Value} (h : W.ownsRow base e size v (k + 1) xs) : ∃ g cap, v = .slice (some ⟨g, 0, none⟩) (k + 1) cap ∧ v.ownBlock = some g ∧ g < W.heap.size := by
 obtain ⟨g, cap, rfl⟩ := owns_succ h
 exact ⟨g, cap, rfl, rfl, (World.ownsRow.lt h g rfl).2⟩
theorem owns_cap {W : World} {base : Nat} {e : TypeId} {size g n cap : Nat} {xs : List Value} (h : W.ownsRow base e size (.slice (some ⟨g, 0, none⟩) (n + 1) cap) (n + 1) xs) : n ≤ cap ∧ (n : Int) ≤ (cap : Int) ∧ cap ≤ 9223372036854775807 := by
 obtain ⟨_, _, hv, h1, h2, _⟩ := RowAt.of_owns h
 cases hv
 exact ⟨by omega, by omega, h2⟩
theorem wpList_push_at {P : Program} {w : World} {t e size bytes : Nat} {z : Value} (E : Elem P t e size bytes z) {ops : Array Oper} {rest : List Oper} {o : Oper} {a : Act} {Q : Exit → Act → World → Prop} (hg : o.guard = none) (s x : Operand)
  (hop : o.op = Op.call { callee := Callee.builtin Builtin.append, args := #[s, x], argTypes := #[t, t] }) (base : Nat) {v : Value} {k : Nat} {xs : List Value} (hs : a.eval s = v) (hown : w.ownsRow base e size v k xs)
  {cs : Array Value} {e' : TypeId} {m : Nat} (hx : a.eval x = .slice (some ⟨m, 0, none⟩) 1 1) (hm : m = w.heap.size) (hl : cs.size = size) (h1 : ∀ u ∈ cs.toList, u.oneCell' = true)
  (hK : ∀ g cap w', w'.ownsRow base e size (.slice (some ⟨g, 0, none⟩) (k + 1) cap) (k + 1) (xs ++ cs.toList) → (∀ a0, Ext a0 w → a0.heap.size ≤ base → Ext a0 w') → (w.alloc (.cells cs e')).grownBy w' v.ownBlock → (v.ownBlock = some g ∨ g = w.heap.size + 1) → wpList P ops Q rest (a.put o.dst (.slice (some ⟨g, 0, none⟩) (k + 1) cap)) w') (b1 : k + 1 ≤ maxLen) (b2 : (k + 1) * bytes ≤ 140737488355328) (b3 : base ≤ w.heap.size) :
  wpList P ops Q (o :: rest) a (w.alloc (.cells cs e')) := by
 subst hm
 obtain ⟨i, hi, hz, hsz, hb⟩ := E.info
 refine wpList_append_own_at _ hg s x t hop base e i z size bytes E.slice hi hz hsz hb E.zero E.pos v k xs hs (hown.alloc _) ⟨w.heap.size, 0, none⟩ 1 1 cs.toList hx (by simp [hl]) ?_ h1 b1 b2 (by simp; omega) ?_
 ·intro j u hj
  obtain ⟨a1, c, hv, _, _, _, h3⟩ := RowAt.new1 w cs e'
  cases hv
  obtain ⟨b, o1, ha, hc⟩ := h3 j u hj
  cases ha
  rcases Nat.eq_zero_or_pos j with rfl | h0
  ·simpa [Addr.add] using hc
  ·simpa [Addr.add, Nat.ne_of_gt h0] using hc
 ·intro v' w' ho hgr _ hloc
  obtain ⟨g, cap, rfl⟩ := owns_succ ho
  refine hK g cap w' ho (fun a0 ha hb => (ha.alloc _).grown hgr (fun k hk => by have := owns_block hown k hk; omega)) hgr ?_
  rcases hloc with h | h
  ·exact .inl (h ▸ rfl)
  ·right; have : some g = some (w.alloc (.cells cs e')).heap.size := h
   simpa using this
theorem wpListIn_push_at {F : Fence} {n : Nat} {P : Program} {w : World} {t e size bytes : Nat} {z : Value} (E : Elem P t e size bytes z) {ops : Array Oper} {rest : List Oper} {o : Oper} {a : Act} {Q : Exit → Act → World → Prop} (hg : o.guard = none) (s x : Operand)
  (hop : o.op = Op.call { callee := Callee.builtin Builtin.append, args := #[s, x], argTypes := #[t, t] }) (base : Nat) {v : Value} {k : Nat} {xs : List Value} (hs : a.eval s = v) (hown : w.ownsRow base e size v k xs)
  {cs : Array Value} {e' : TypeId} {m : Nat} (hx : a.eval x = .slice (some ⟨m, 0, none⟩) 1 1) (hm : m = w.heap.size) (hl : cs.size = size) (h1 : ∀ u ∈ cs.toList, u.oneCell' = true)
  (hK : ∀ g cap w', w'.ownsRow base e size (.slice (some ⟨g, 0, none⟩) (k + 1) cap) (k + 1) (xs ++ cs.toList) → (∀ a0, Ext a0 w → a0.heap.size ≤ base → Ext a0 w') → (w.alloc (.cells cs e')).grownBy w' v.ownBlock → (v.ownBlock = some g ∨ g = w.heap.size + 1) → wpListIn F n P ops Q rest (a.put o.dst (.slice (some ⟨g, 0, none⟩) (k + 1) cap)) w') (b1 : k + 1 ≤ maxLen) (b2 : (k + 1) * bytes ≤ 140737488355328) (b3 : base ≤ w.heap.size) :
  wpListIn F n P ops Q (o :: rest) a (w.alloc (.cells cs e')) := by
 subst hm
 obtain ⟨i, hi, hz, hsz, hb⟩ := E.info
 refine wpListIn_append_own_at _ hg s x t hop base e i z size bytes E.slice hi hz hsz hb E.zero E.pos v k xs hs (hown.alloc _) ⟨w.heap.size, 0, none⟩ 1 1 cs.toList hx (by simp [hl]) ?_ h1 b1 b2 (by simp; omega) ?_
 ·intro j u hj
  obtain ⟨a1, c, hv, _, _, _, h3⟩ := RowAt.new1 w cs e'
  cases hv
  obtain ⟨b, o1, ha, hc⟩ := h3 j u hj
  cases ha
  rcases Nat.eq_zero_or_pos j with rfl | h0
  ·simpa [Addr.add] using hc
  ·simpa [Addr.add, Nat.ne_of_gt h0] using hc
 ·intro v' w' ho hgr _ hloc
  obtain ⟨g, cap, rfl⟩ := owns_succ ho
  refine hK g cap w' ho (fun a0 ha hb => (ha.alloc _).grown hgr (fun k hk => by have := owns_block hown k hk; omega)) hgr ?_
  rcases hloc with h | h
  ·exact .inl (h ▸ rfl)
  ·right; have : some g = some (w.alloc (.cells cs e')).heap.size := h
   simpa using this
/-- A push of several elements, in a region that draws its order. -/
theorem step_push_n {P : Program} {w : World} {t e size bytes : Nat} {z : Value} (E : Elem P t e size bytes z) {ops : Array Oper} {o : Oper} {a : Act} {K : Act → World → Prop} {Q : Exit → Act → World → Prop} {E' : Prop} (hw : Region.wanted o (yielded ops a.tmps) = true) (s x : Operand)
  (hop : o.op = Op.call { callee := Callee.builtin Builtin.append, args := #[s, x], argTypes := #[t, t] }) (base : Nat) {v : Value} {k q : Nat} {xs : List Value} (hs : a.eval s = v) (hown : w.ownsRow base e size v k xs)
  {cs : Array Value} {e' : TypeId} {m : Nat} (hx : a.eval x = .slice (some ⟨m, 0, none⟩) (q + 1) (q + 1)) (hm : m = w.heap.size) (hl : cs.size = (q + 1) * size) (hq : q + 1 ≤ maxLen) (h1 : ∀ u ∈ cs.toList, u.oneCell' = true)
  (hK : ∀ g cap w', w'.ownsRow base e size (.slice (some ⟨g, 0, none⟩) (k + q + 1) cap) (k + q + 1) (xs ++ cs.toList) → (w.alloc (.cells cs e')).grownBy w' v.ownBlock → (v.ownBlock = some g ∨ g = w.heap.size + 1) → K (a.put o.dst (.slice (some ⟨g, 0, none⟩) (k + q + 1) cap)) w') (b1 : k + q + 1 ≤ maxLen) (b2 : (k + q + 1) * bytes ≤ 140737488355328) (b3 : base ≤ w.heap.size) :
  if Region.wanted o (yielded ops a.tmps) = true then Oper.wp P o a (w.alloc (.cells cs e')) K Q else E' := by
 rw [if_pos hw]
 subst hm
 obtain ⟨i, hi, hz, hsz, hb⟩ := E.info
 obtain ⟨v', w', hrun, ho, hgr, _, hloc⟩ := run_append_own_at (P := P) (w.alloc (.cells cs e')) base t o.type e i z size bytes E.slice hi hz hsz hb E.zero E.pos v k xs (hown.alloc _) ⟨w.heap.size, 0, none⟩ (q + 1) (q + 1) cs.toList (by simp [hl]) (by
  intro j u hj
  obtain ⟨a1, c, hv, _, _, _, h3⟩ := RowAt.new w cs e' (q + 1) (q + 1) (Nat.le_refl _) hq
  cases hv
  obtain ⟨b, o1, ha, hc⟩ := h3 j u hj
  cases ha
  rcases Nat.eq_zero_or_pos j with rfl | h0
  ·simpa [Addr.add] using hc
  ·simpa [Addr.add, Nat.ne_of_gt h0] using hc) h1 (by omega) (by rw [← Nat.add_assoc]; exact b2) (by simp; omega)
 rw [← Nat.add_assoc] at ho
 obtain ⟨g, cap, rfl⟩ := owns_succ ho
 unfold Oper.wp
 simp [execOp, hop, resolve, invoke, builtin, hs, hx, hrun, Result.andThen]
 refine hK g cap w' ho hgr ?_
 rcases hloc with h | h
 ·exact .inl (h ▸ rfl)
 ·right; have : some g = some (w.alloc (.cells cs e')).heap.size := h
  simpa using this
/-- A push of one element, in a region that draws its order. -/
theorem step_push_at {P : Program} {w : World} {t e size bytes : Nat} {z : Value} (E : Elem P t e size bytes z) {ops : Array Oper} {o : Oper} {a : Act} {K : Act → World → Prop} {Q : Exit → Act → World → Prop} {E' : Prop} (hw : Region.wanted o (yielded ops a.tmps) = true) (s x : Operand)
  (hop : o.op = Op.call { callee := Callee.builtin Builtin.append, args := #[s, x], argTypes := #[t, t] }) (base : Nat) {v : Value} {k : Nat} {xs : List Value} (hs : a.eval s = v) (hown : w.ownsRow base e size v k xs)
  {cs : Array Value} {e' : TypeId} {m : Nat} (hx : a.eval x = .slice (some ⟨m, 0, none⟩) 1 1) (hm : m = w.heap.size) (hl : cs.size = size) (h1 : ∀ u ∈ cs.toList, u.oneCell' = true)
  (hK : ∀ g cap w', w'.ownsRow base e size (.slice (some ⟨g, 0, none⟩) (k + 1) cap) (k + 1) (xs ++ cs.toList) → (w.alloc (.cells cs e')).grownBy w' v.ownBlock → (v.ownBlock = some g ∨ g = w.heap.size + 1) → K (a.put o.dst (.slice (some ⟨g, 0, none⟩) (k + 1) cap)) w') (b1 : k + 1 ≤ maxLen) (b2 : (k + 1) * bytes ≤ 140737488355328) (b3 : base ≤ w.heap.size) :
  if Region.wanted o (yielded ops a.tmps) = true then Oper.wp P o a (w.alloc (.cells cs e')) K Q else E' :=
 step_push_n E hw s x hop base hs hown (q := 0) hx hm (by rw [hl]; omega) (by unfold maxLen; omega) h1 hK b1 b2 b3
/-! ### Rows of spans that the call owns -/
/-- A slice of rows, in blocks from B on; each row lies apart from the slice's own array. -/
structure RowsIn (B : Nat) (W : World) (tv : Value) (vs : List Value) (xss : List (List (Int × Int))) : Prop where
 own : W.ownsRow B 60 1 tv vs.length vs
 len : vs.length = xss.length
 each : ∀ (i : Nat) (x : Value) (xs : List (Int × Int)), vs[i]? = some x → xss[i]? = some xs → xs ≠ [] ∧ PairsOff (fun j => tv.ownBlock = some j ∨ j < B) W x xs
theorem RowsIn.nil (B : Nat) (W : World) : RowsIn B W (.slice none 0 0) [] [] := ⟨World.ownsRow_nil _ _ _ _, rfl, fun i x xs h => by simp at h⟩
theorem RowsIn.touch {M : Nat → Prop} {B : Nat} {W W' : World} {tv : Value} {vs : List Value} {xss : List (List (Int × Int))} (h : RowsIn B W tv vs xss) (k : Touch M W W') (hm : ∀ j, M j → j < B) : RowsIn B W' tv vs xss :=
 ⟨owns_touch h.own k (fun g hg hM => by have := owns_block h.own g hg; have := hm _ hM; omega), h.len, fun i x xs hx hxs => by
  obtain ⟨h1, h2⟩ := h.each i x xs hx hxs
  exact ⟨h1, (h2.less (N := fun j => (tv.ownBlock = some j ∨ j < B) ∨ M j) (fun j hj => hj.elim id (fun hM => .inr (hm j hM))) |>.touch (k.mono (fun j hj => .inr hj))).less (fun j hj => .inl hj)⟩⟩
theorem RowsIn.ext {B : Nat} {W W' : World} {tv : Value} {vs : List Value} {xss : List (List (Int × Int))} (h : RowsIn B W tv vs xss) (k : Ext W W') : RowsIn B W' tv vs xss :=
 h.touch (M := fun _ => False) (Touch.of_ext k) (fun _ h => h.elim)
theorem RowsIn.off {B : Nat} {W : World} {tv : Value} {vs : List Value} {xss : List (List (Int × Int))} (h : RowsIn B W tv vs xss) : SpansOff (· < B) W tv xss := by
 refine ⟨vs, h.len, ?_, fun a n c hv hM => ?_, fun i x xs hx hxs => (h.each i x xs hx hxs).2.less (fun j hj => .inr hj)⟩
 ·have := RowAt.of_owns h.own; rwa [h.len] at this
 ·have := owns_block h.own a.block (by rw [hv]; rfl); exact Nat.not_lt.2 this hM
theorem block_lt {w : World} {a : Addr} {n c : Nat} {xs : List (Int × Int)} (h : PairsAt w (.slice (some a) n c) xs) (hx : xs ≠ []) : a.block < w.heap.size := by
 obtain ⟨a', c', hv, r1, r2, r3⟩ := h.open
 cases xs with
 | nil => exact absurd rfl hx
 | cons z zs =>
  obtain ⟨b', o', _, ha', _, hc', _⟩ := r3 0 (by simp)
  cases hv
  cases ha'
  exact lt_of_cell hc'
theorem RowsIn.push {B : Nat} {W W2 w5 : World} {tv u : Value} {vs : List Value} {xss : List (List (Int × Int))} {ys : List (Int × Int)} {g cap : Nat} {t : TypeId} (h : RowsIn B W tv vs xss) (hBW : B ≤ W.heap.size) (hx : Ext W W2) (hu : PairsAt W2 u ys) (hy : ys ≠ []) (hf : OffV (· < W.heap.size) u)
  (own5 : w5.ownsRow B 60 1 (.slice (some ⟨g, 0, none⟩) (vs.length + 1) cap) (vs.length + 1) (vs ++ [u])) (hg : (W2.alloc (.cells #[u] t)).grownBy w5 tv.ownBlock) (hloc : tv.ownBlock = some g ∨ g = W2.heap.size + 1) :
  RowsIn B w5 (.slice (some ⟨g, 0, none⟩) (vs.length + 1) cap) (vs ++ [u]) (xss ++ [ys]) := by
 have hb : ∀ i, tv.ownBlock = some i → B ≤ i ∧ i < W.heap.size := fun i hi => ⟨owns_block h.own i hi, (World.ownsRow.lt h.own i hi).2⟩
 have hxs := hx.size
 have hT2 : Touch (fun i => tv.ownBlock = some i) W2 w5 := (Touch.of_ext ((Ext.refl W2).alloc _)).trans (Touch.grown hg (fun i hi => hi))
 have hT : Touch (fun i => tv.ownBlock = some i) W w5 := (Touch.of_ext hx).trans hT2
 refine ⟨by simpa using own5, by simp [h.len], fun i x xs hx' hxs' => ?_⟩
 rcases Nat.lt_or_ge i vs.length with hi | hi
 ·rw [List.getElem?_append_left hi] at hx'
  rw [List.getElem?_append_left (by rw [← h.len]; exact hi)] at hxs'
  obtain ⟨h1, h2⟩ := h.each i x xs hx' hxs'
  have h3 := h2.touch (hT.mono (fun b hb => .inl hb))
  refine ⟨h1, h3.1, fun a n c ha hm => ?_⟩
  rcases hm with hm | hm
  ·have hgb : g = a.block := by simpa [Value.ownBlock] using hm
   rcases hloc with hl | hl
   ·exact h2.2 a n c ha (.inl (by rw [hl, hgb]))
   ·have := block_lt (ha ▸ h2.1) h1
    omega
  ·exact h3.2 a n c ha (.inr hm)
 ·have hi' : i = vs.length := by
   have := (List.getElem?_eq_some_iff.1 hx').1
   rw [List.length_append, List.length_singleton] at this; omega
  subst hi'
  rw [List.getElem?_append_right (Nat.le_refl _), Nat.sub_self] at hx'
  rw [List.getElem?_append_right (by rw [h.len]; exact Nat.le_refl _), h.len, Nat.sub_self] at hxs'
  cases hx'; cases hxs'
  have hu2 : PairsOff (fun i => tv.ownBlock = some i) W2 u ys := ⟨hu, fun a n c ha hm => by have := hf a n c ha; have := (hb _ hm).2; omega⟩
  have hu5 := hu2.touch hT2
  refine ⟨hy, hu5.1, fun a n c ha hm => ?_⟩
  have hlt := block_lt (ha ▸ hu) hy
  have hge := hf a n c ha
  rcases hm with hm | hm
  ·have hgb : g = a.block := by simpa [Value.ownBlock] using hm
   rcases hloc with hl | hl
   ·have := (hb _ hl).2; omega
   ·omega
  ·omega
end Go.Proofs.YtiodjapdiflphaaGreatDoor
