/- with: one shell more has an origin; or no weather agrees, and that is recovered. -/
import Derived.Test.YtiodjapdiflphaaGreatDoorStateb
import Derived.RangeFuncLeaves
import Derived.Sort.QuietIn
import Derived.Sort.BigQuietIn
import Derived.Defers
import Derived.Recover
import Derived.RecoverIn
import Derived.Deep.Cut
import Derived.Deep.DeepCutAuto
namespace Go.Proofs.YtiodjapdiflphaaGreatDoor
open Go.RowKit
/-! ### The deferred closure -/
theorem with1_idle (a b : Nat) (w : World) :
  CallsD Tryz.prog 123 #[.pointer (some ⟨a, 0, none⟩), .pointer (some ⟨b, 0, none⟩)] .returning w fun e u' w' => e = .returned (.tuple #[]) ∧ u' = .returning ∧ w' = w := by
 refine callsD_of_wpS Tryz.func123 rfl fun c₀ cs hu => ?_
 apply wpS_seq
 apply wpS_region
 simp [wpOpsS, go_sem, recoverD, hu, Tryz.ntmps123, Exit.thenS]
 refine wpS_of_wp ?_
 go_wp2
 cases c₀
 simp_all [bodyPostS, results, Tryz.results123]
def zeroW (w : World) (r y : Int) (a b : Nat) : World :=
 (((w.setCell ⟨a, 0, none⟩ (.slice none 0 0)).setCell ⟨a, 1, none⟩ (.slice none 0 0)).setCell ⟨b, 0, none⟩ (.bool false)).alloc (.cells #[.int .i64 r, .int .i64 y] 198)
set_option maxHeartbeats 4000000 in
theorem with1_contra (a b : Nat) (r y : Int) (w : World) (u v : Value) (x : Bool) (hc : Box2 w a u v) (hb : w.cell? ⟨b, 0, none⟩ = some (.bool x)) (hf : w.frozen? ⟨b, 0, none⟩ = false) (hab : a ≠ b) :
  CallsD Tryz.prog 123 #[.pointer (some ⟨a, 0, none⟩), .pointer (some ⟨b, 0, none⟩)] (.panicking [{ v := contraV r y, recovered := false }]) w fun e u' w' =>
   e = .returned (.tuple #[]) ∧ u' = .panicking [{ v := contraV r y, recovered := true }] ∧ w' = zeroW w r y a b := by
 have hta : ∀ wq, (Instr.typeAssert (.iface 198 (.agg #[.int .i64 r, .int .i64 y])) 20 198 true).run Tryz.prog wq = .ok (.tuple #[.agg #[.int .i64 r, .int .i64 y], .bool true]) wq := fun wq => by kernel_rfl
 have hx := (Ext.refl w).alloc (.cells #[.int .i64 r, .int .i64 y] 198)
 obtain ⟨c0, c1, f0, f1⟩ := hc.ext hx
 have hb1 := hx.cell hb
 have hf1 := (hx.frozen (lt_of_cell hb)).trans hf
 obtain ⟨d0, d1, e0, e1⟩ := hc
 have hla := lt_of_cell d0
 have hlb := lt_of_cell hb
 simp only at hla hlb
 unfold contraV zeroW
 refine callsD_of_wpS Tryz.func123 rfl fun c₀ cs hu => ?_
 apply wpS_seq
 apply wpS_region
 simp [wpOpsS, go_sem, recoverD, hu, Tryz.ntmps123, Exit.thenS]
 refine wpS_of_wp ?_
 go_wp2
 cases c₀
 simp_all [bodyPostS, results, Tryz.results123]
end Go.Proofs.YtiodjapdiflphaaGreatDoor
/- with: the walk. -/
namespace Go.Proofs.YtiodjapdiflphaaGreatDoor
open Go.RowKit
theorem pairs_set : ∀ (rw : List (Int × Int)) (p : Nat) (m : Int × Int), ((rw.flatMap pairC).set (p * 2) (.int .i64 m.1)).set (p * 2 + 1) (.int .i64 m.2) = (rw.set p m).flatMap pairC
 | [], p, m => by simp
 | x :: rw, 0, m => by simp [pairC]
 | x :: rw, p + 1, m => by
  have e1 : (p + 1) * 2 = p * 2 + 2 := by omega
  have e2 : (p + 1) * 2 + 1 = p * 2 + 1 + 2 := by omega
  have ih := pairs_set rw p m
  rw [e2, e1]
  have hc : ∀ l : List (Int × Int), (x :: l).flatMap pairC = .int .i64 x.1 :: .int .i64 x.2 :: l.flatMap pairC := fun _ => rfl
  have hd : (x :: rw).set (p + 1) m = x :: rw.set p m := rfl
  rw [hd, hc, hc, ← ih]
  rfl
theorem row_stored {w : World} {base : Nat} {e : TypeId} {g cap n p : Nat} {rw : List (Int × Int)} (h : w.ownsRow base e 2 (.slice (some ⟨g, 0, none⟩) n cap) n (rw.flatMap pairC)) (m : Int × Int) :
  ((w.setCell ⟨g, p * 2, none⟩ (.int .i64 m.1)).setCell ⟨g, p * 2 + 1, none⟩ (.int .i64 m.2)).ownsRow base e 2 (.slice (some ⟨g, 0, none⟩) n cap) n ((rw.set p m).flatMap pairC) := by
 rw [← pairs_set]
 exact ((h.stored (p * 2) _).1.stored (p * 2 + 1) _).1
theorem narrowL_step {off n : Int} {ns : List Int} {p : Nat} {row : List (Int × Int)} {s : Int × Int} (hs : row[p]? = some s) :
  narrowL off (n :: ns) p row = if (meet s n off).2 < (meet s n off).1 then none else narrowL off ns (p + 1) (row.set p (meet s n off)) := by
 have : row.getD p (0, 0) = s := by rw [List.getD_eq_getElem?_getD, hs]; rfl
 simp only [narrowL, this]
theorem narrowL_length {off : Int} : ∀ {ns : List Int} {p : Nat} {row out : List (Int × Int)}, narrowL off ns p row = some out → out.length = row.length
 | [], _, _, _, h => by simp only [narrowL, Option.some.injEq] at h; rw [← h]
 | n :: ns, p, row, out, h => by
  simp only [narrowL] at h
  split at h
  ·cases h
  ·rw [narrowL_length h, List.length_set]
/-- What a state holds to. -/
structure StateB (b : Book) (x : State) : Prop where
 len : x.wea.length = b.rivers.length
 row : ∀ l, l ∈ x.wea → (l.length : Int) = b.years
 org : x.org.length ≤ 100
def WithPost (b : Book) (x : State) (s : Shell) (o : Org) (M : Nat → Prop) (w : World) (e : Ending) (w' : World) : Prop :=
 ∃ oa on oc wa wn wc is, e = .returned (.tuple #[.agg #[.slice oa on oc, .slice wa wn wc], .bool is]) ∧ Ext w w' ∧ match withB b x s o with
  | some z => is = true ∧ StateOff M w' z (.agg #[.slice oa on oc, .slice wa wn wc])
  | none => is = false
theorem leaves_congr {P : Program} {fn : Func} {t t' : Array Value} {R : Ending → World → Prop} (h : results fn t = results fn t') : ∀ (ds : List Deferred), Leaves P fn t R ds = Leaves P fn t' R ds
 | [] => by
  funext m w
  cases m <;> simp only [Leaves, h]
 | d :: ds => by
  have ih := leaves_congr (P := P) (R := R) h ds
  funext m w
  simp only [Leaves, ih]
/-- What a panic leads to does not hang on a temporary that is no result. -/
theorem with_put {R : Ending → World → Prop} {c : List PanicEntry} {a : Act} {d : Nat} {v : Value} {w : World} (h8 : d ≠ 8) (h9 : d ≠ 9) (h : bodyPostD Tryz.prog Tryz.f96 R (.panic c) (a.put (some d) v) w) : bodyPostD Tryz.prog Tryz.f96 R (.panic c) a w := by
 have e : results Tryz.f96 (a.put (some d) v).tmps = results Tryz.f96 a.tmps := by
  unfold results
  rw [Tryz.results96]
  simp [Act.put, Array.getD_eq_getD_getElem?, Array.getElem?_setIfInBounds, h8, h9]
 change Leaves _ _ (a.put (some d) v).tmps R a.defers _ w at h
 change Leaves _ _ a.tmps R a.defers _ w
 rw [← leaves_congr e]
 exact h
/-- The pieces of a state, behind the writes to a block that was laid later. -/
structure WithW (x : State) (o : Org) (n : Nat) (vs : List Value) (B0 B1 B2 : Nat) (w w5 : World) (ov wv : Value) (rb : Nat) : Prop where
 box : Box2 w5 rb ov wv
 org : PairsOff (fun i => i < B0 ∨ B1 ≤ i) w5 ov (x.org ++ [o])
 own : w5.ownsRow B1 60 1 wv n vs
 low : ∀ g, wv.ownBlock = some g → g < B2
theorem WithW.touch {x : State} {o : Org} {n : Nat} {vs : List Value} {B0 B1 B2 : Nat} {w w5 w6 : World} {ov wv : Value} {rb : Nat} (h : WithW x o n vs B0 B1 B2 w w5 ov wv rb) (k : Touch (fun i => B2 ≤ i) w5 w6) (hb : rb < B2) (h12 : B1 ≤ B2) : WithW x o n vs B0 B1 B2 w w6 ov wv rb :=
 ⟨h.box.touch k (by omega), (h.org.touch (k.mono (fun i hi => .inr (by omega)))), owns_touch h.own k (fun g hg => by have := h.low g hg; omega), h.low⟩
theorem PairsAt.new2 (w : World) (p q : Int × Int) (t : TypeId) : PairsAt (w.alloc (.cells #[.int .i64 p.1, .int .i64 p.2, .int .i64 q.1, .int .i64 q.2] t)) (.slice (some ⟨w.heap.size, 0, none⟩) 2 2) [p, q] := RowAt.new w _ t 2 2 (Nat.le_refl _) (by unfold maxLen; omega)
theorem pair_cells {w : World} {base : Nat} {e : TypeId} {g cap n p : Nat} {rw : List (Int × Int)} {s : Int × Int} (h : w.ownsRow base e 2 (.slice (some ⟨g, 0, none⟩) n cap) n (rw.flatMap pairC)) (hs : rw[p]? = some s) (hp : p < n) :
  w.cell? ⟨g, p * 2, none⟩ = some (.int .i64 s.1) ∧ w.cell? ⟨g, p * 2 + 1, none⟩ = some (.int .i64 s.2) := by
 have e0 := flatMap_at pairC 2 (fun _ => rfl) rw p 0 s hs (by omega)
 have e1 := flatMap_at pairC 2 (fun _ => rfl) rw p 1 s hs (by omega)
 exact ⟨by rw [h.cellAt (p * 2) (by omega)]; exact e0, by rw [h.cellAt (p * 2 + 1) (by omega)]; exact e1⟩
theorem with_panic {b : Book} {x : State} {s : Shell} {o : Org} {M : Nat → Prop} {w w9 : World} {r p : Int} {t : Array Value} {u v : Value} {is : Bool} {A B : Nat} (hA : t.getD 8 undef = .pointer (some ⟨A, 0, none⟩)) (hB : t.getD 9 undef = .pointer (some ⟨B, 0, none⟩))
  (hn : withB b x s o = none) (hx : Ext w w9) (hb : Box2 w9 A u v) (hc : w9.cell? ⟨B, 0, none⟩ = some (.bool is)) (hf : w9.frozen? ⟨B, 0, none⟩ = false) (hAB : A ≠ B) (hwA : w.heap.size ≤ A) (hwB : w.heap.size ≤ B) :
  Leaves Tryz.prog Tryz.f96 t (WithPost b x s o M w) [{ target := .fn (.func 123) #[.pointer (some ⟨A, 0, none⟩), .pointer (some ⟨B, 0, none⟩)], args := #[] }] (.panicking [{ v := contraV r p, recovered := false }]) w9 := by
 rw [Array.getD_eq_getD_getElem?] at hA hB
 refine leaves_cons (f := 123) (args := #[.pointer (some ⟨A, 0, none⟩), .pointer (some ⟨B, 0, none⟩)]) (by simp) (by simp [go_sem]) ?_
 refine (with1_contra A B r p w9 u v is hb hc hf hAB).mono ?_
 rintro e u' w'' ⟨rfl, rfl, rfl⟩
 have hz : Ext w (zeroW w9 r p A B) := (((hx.setCell (p := ⟨A, 0, none⟩) hwA _).setCell (p := ⟨A, 1, none⟩) hwA _).setCell (p := ⟨B, 0, none⟩) hwB _).alloc _
 have hb2 := (hb.set (.slice none 0 0) (.slice none 0 0)).touch (Touch.setCell (M := (· = B)) (a := ⟨B, 0, none⟩) (.bool false) rfl) hAB
 have hb3 := hb2.ext ((Ext.refl _).alloc (.cells #[.int .i64 r, .int .i64 p] 198))
 have hc1 : ((w9.setCell ⟨A, 0, none⟩ (.slice none 0 0)).setCell ⟨A, 1, none⟩ (.slice none 0 0)).cell? ⟨B, 0, none⟩ = some (.bool is) := by
  have ht : Touch (· = A) w9 ((w9.setCell ⟨A, 0, none⟩ (.slice none 0 0)).setCell ⟨A, 1, none⟩ (.slice none 0 0)) := ((Touch.refl _ w9).trans (Touch.setCell _ (by rfl))).trans (Touch.setCell _ (by rfl))
  exact ht.cell hc (fun h => hAB h.symm)
 have hc2 := World.cell?_setCell_same' _ ⟨B, 0, none⟩ (.bool false) (by rw [hc1]; rfl)
 have hc3 := ((Ext.refl _).alloc (.cells #[.int .i64 r, .int .i64 p] 198)).cell hc2
 obtain ⟨q0, q1, _, _⟩ := hb3
 unfold zeroW at hz ⊢
 simp only [settle]
 refine ⟨.tuple #[.agg #[.slice none 0 0, .slice none 0 0], .bool false], ?_, ?_⟩
 ·simp [results, Tryz.results96, go_sem, hA, hB, q0, q1, hc3]
 ·exact ⟨_, _, _, _, _, _, _, rfl, hz, by rw [hn]⟩
theorem with_done {b : Book} {x z : State} {s : Shell} {o : Org} {M : Nat → Prop} {w w9 : World} {t : Array Value} {oa wa : Option Addr} {on oc wn wc : Nat} {A B : Nat} (hA : t.getD 8 undef = .pointer (some ⟨A, 0, none⟩)) (hB : t.getD 9 undef = .pointer (some ⟨B, 0, none⟩))
  (hn : withB b x s o = some z) (hx : Ext w w9) (hb : Box2 w9 A (.slice oa on oc) (.slice wa wn wc)) (hc : w9.cell? ⟨B, 0, none⟩ = some (.bool true)) (hz : StateOff M w9 z (.agg #[.slice oa on oc, .slice wa wn wc])) :
  Leaves Tryz.prog Tryz.f96 t (WithPost b x s o M w) [{ target := .fn (.func 123) #[.pointer (some ⟨A, 0, none⟩), .pointer (some ⟨B, 0, none⟩)], args := #[] }] .returning w9 := by
 rw [Array.getD_eq_getD_getElem?] at hA hB
 refine leaves_cons (f := 123) (args := #[.pointer (some ⟨A, 0, none⟩), .pointer (some ⟨B, 0, none⟩)]) (by simp) (by simp [go_sem]) ?_
 refine (with1_idle _ _ _).mono ?_
 rintro e u' w'' ⟨rfl, rfl, rfl⟩
 obtain ⟨q0, q1, _, _⟩ := hb
 refine ⟨.tuple #[.agg #[.slice oa on oc, .slice wa wn wc], .bool true], ?_, ?_⟩
 ·simp [results, Tryz.results96, go_sem, hA, hB, q0, q1, hc]
 ·exact ⟨_, _, _, _, _, _, _, rfl, hx, by rw [hn]; exact ⟨rfl, hz⟩⟩
end Go.Proofs.YtiodjapdiflphaaGreatDoor
/- with: the walk. -/
namespace Go.Proofs.YtiodjapdiflphaaGreatDoor
open Go.RowKit
set_option maxRecDepth 100000 in
set_option maxHeartbeats 16000000 in
theorem with_any (b : Book) (rv sv tv ov wv gv : Value) (x : State) (s : Shell) (r y : Nat) (M : Nat → Prop) (w : World) (hB : BookB b) (hr : RiversAt w rv b.rivers) (hs : IsSlice sv) (ht : IsSlice tv) (hO : PairsOff M w ov x.org) (hW : SpansOff M w wv x.wea)
  (hx : StateB b x) (hsh : IntsAt w gv s.rings) (hS : ShellB s) (h1 : r < b.rivers.length) (h2 : (y : Int) < b.years) (h3 : s.rings.length ≤ y + 1) (hM : ∀ i, M i → i < w.heap.size) :
  Calls Tryz.prog 96 #[sackV b rv sv tv, .agg #[ov, wv], .agg #[gv, .int .i64 s.off], .agg #[.int .i64 r, .int .i64 y]] w (WithPost b x s ((r : Int), (y : Int)) M w) := by
 obtain ⟨sa, sn, sc, rfl⟩ := hs
 obtain ⟨ta, tn, tc, rfl⟩ := ht
 obtain ⟨ra, rc, rfl, r1, r2, r3⟩ := hr.open
 obtain ⟨rb, ro, grv, R, rfl, hR, d0, d1, d2, hg⟩ := r3 r h1
 obtain ⟨oa, oc, rfl, o1, o2, _⟩ := hO.1.open
 obtain ⟨vs, v1, v2, v3, v4⟩ := hW
 obtain ⟨wa, wk, hwv, w1, w2, w3⟩ := RowAt.open v2
 obtain ⟨ga, gc, rfl, g1, g2, g3⟩ := hsh.open
 have hmix : Tryz.prog.follows .mixedOrders = true := by kernel_rfl
 have hmf : ∀ (fn : Fn) (first cap : Array Value) (w : World), (Instr.makeFunc fn first cap).run Tryz.prog w = .ok (.func fn first cap) w := fun _ _ _ _ => rfl
 have hrw : r < x.wea.length := by rw [hx.len]; exact h1
 obtain ⟨row0, hrow0⟩ : ∃ row0, x.wea[r]? = some row0 := ⟨x.wea[r], by simp [hrw]⟩
 have hvr : r < vs.length := by omega
 obtain ⟨u0, hu0⟩ : ∃ u0, vs[r]? = some u0 := ⟨vs[r], by simp [hvr]⟩
 have hur := v4 r u0 row0 hu0 hrow0
 obtain ⟨ua, uc, rfl, u1, u2, _⟩ := hur.1.open
 obtain ⟨wb, wo, hwa, hcu⟩ := w3 r _ hu0
 subst hwa hwv
 obtain ⟨wB, hwB⟩ : ∃ wB, wB = ((((w.alloc (.cells #[.int .i64 b.years, .slice (some ⟨rb, ro, none⟩) b.rivers.length rc, .slice sa sn sc, .slice ta tn tc] 89)).alloc (.cells #[.slice oa x.org.length oc, .slice (some ⟨wb, wo, none⟩) x.wea.length wk] 113)).alloc (.cells #[.slice ga s.rings.length gc, .int .i64 s.off] 65)).alloc (.cells #[.int .i64 r, .int .i64 y] 84)) := ⟨_, rfl⟩
 have hxB : Ext w wB := by rw [hwB]; exact ((((Ext.refl w).alloc _).alloc _).alloc _).alloc _
 have hzB : wB.heap.size = w.heap.size + 4 := by rw [hwB]; simp
 have HS := Lib.hid (fun W (h : Ext wB W) => (⟨h.cell (by rw [hwB]; go_simp), h.cell (by rw [hwB]; go_simp), h.cell (by rw [hwB]; go_simp), h.cell (by rw [hwB]; go_simp), h.cell (by rw [hwB]; go_simp), h.cell (by rw [hwB]; go_simp), h.cell (by rw [hwB]; go_simp), h.cell (by rw [hwB]; go_simp)⟩ : W.cell? ⟨w.heap.size, 0, none⟩ = some (.int .i64 b.years) ∧ W.cell? ⟨w.heap.size, 1, none⟩ = some (.slice (some ⟨rb, ro, none⟩) b.rivers.length rc) ∧ W.cell? ⟨w.heap.size + 1, 0, none⟩ = some (.slice oa x.org.length oc) ∧ W.cell? ⟨w.heap.size + 1, 1, none⟩ = some (.slice (some ⟨wb, wo, none⟩) x.wea.length wk) ∧ W.cell? ⟨w.heap.size + 2, 0, none⟩ = some (.slice ga s.rings.length gc) ∧ W.cell? ⟨w.heap.size + 2, 1, none⟩ = some (.int .i64 s.off) ∧ W.cell? ⟨w.heap.size + 3, 0, none⟩ = some (.int .i64 r) ∧ W.cell? ⟨w.heap.size + 3, 1, none⟩ = some (.int .i64 y)))
 have HS2 := Lib.hid (fun W (h : Ext wB W) => (⟨(HS.out W h).2.2.1, (HS.out W h).2.2.2.2.2.2.1, (HS.out W h).2.2.2.2.2.2.2⟩ : W.cell? ⟨w.heap.size + 1, 0, none⟩ = some (.slice oa x.org.length oc) ∧ W.cell? ⟨w.heap.size + 3, 0, none⟩ = some (.int .i64 r) ∧ W.cell? ⟨w.heap.size + 3, 1, none⟩ = some (.int .i64 y)))
 have HRS := Lib.hid (fun W (h : Ext ((wB.alloc (.cells #[.slice none 0 0, .slice none 0 0] 113)).alloc (.cells #[.bool false] 4)) W) => (by
  have h1 := (Box2.new wB (.slice none 0 0) (.slice none 0 0) 113).ext (((Ext.refl _).alloc (.cells #[.bool false] 4)).trans h)
  rw [hzB] at h1
  exact ⟨h1, by have := h.cell (a := ⟨w.heap.size + 5, 0, none⟩) (v := .bool false) (by rw [show w.heap.size + 5 = wB.heap.size + 1 by omega]; go_simp); exact this, by have := h.frozen (a := ⟨w.heap.size + 5, 0, none⟩) (by simp [hzB]); rw [this, show w.heap.size + 5 = wB.heap.size + 1 by omega]; go_simp⟩ :
  Box2 W (w.heap.size + 4) (.slice none 0 0) (.slice none 0 0) ∧ W.cell? ⟨w.heap.size + 5, 0, none⟩ = some (.bool false) ∧ W.frozen? ⟨w.heap.size + 5, 0, none⟩ = false))
 have HC1 := Lib.hid (fun w1 (h : Ext wB w1) => clone_pairs (.slice oa x.org.length oc) x.org.length (x.org.flatMap pairC) w1 (RowAt.ext hO.1 (hxB.trans h)) (pairs_len _) (pairs_one _) (by have := hx.org; omega))
 have HC2 := Lib.hid (fun w1 (h : Ext wB w1) => clone_rows (.slice (some ⟨wb, wo, none⟩) x.wea.length wk) x.wea.length vs w1 (RowAt.ext v2 (hxB.trans h)) (by omega) (SpansOff.one v1 v4) (by have := hx.len; have := hB.n2; omega))
 have HC3 := Lib.hid (fun w1 (h : Ext wB w1) => clone_spans (.slice ua row0.length uc) row0.length (row0.flatMap pairC) w1 (RowAt.ext hur.1 (hxB.trans h)) (pairs_len _) (pairs_one _) (by have := hx.row row0 (List.mem_of_getElem? hrow0); have := hB.y2; omega))
 have HD := Lib.hid (fun W (h : Ext w W) => (⟨h.cell hcu, h.cell d1⟩ : W.cell? ⟨wb, wo + r, none⟩ = some (.slice ua row0.length uc) ∧ W.cell? ⟨rb, ro + r * 3 + 1, none⟩ = some (.int .i64 R.vary)))
 have HWB := Lib.hid hcu
 have HVR := Lib.hid hu0
 have hw0 : ∃ w0, w0 = ((wB.alloc (.cells #[.slice none 0 0, .slice none 0 0] 113)).alloc (.cells #[.bool false] 4)) := ⟨_, rfl⟩
 obtain ⟨w0, hw0⟩ := hw0
 rw [← hw0] at HRS
 have hx0 : Ext wB w0 := by rw [hw0]; exact ((Ext.refl wB).alloc _).alloc _
 have hz0 : w0.heap.size = w.heap.size + 6 := by rw [hw0]; simp [hzB]
 have HZ0 := Lib.hid hz0
 have HZB := Lib.hid hzB
 have hol := hx.org
 have HSM := Lib.hid (show x.org.length + 1 ≤ maxLen ∧ (x.org.length + 1) * 16 ≤ 140737488355328 by unfold maxLen; omega)
 have HOB := Lib.hid hO
 have HV4 := Lib.hid (And.intro v1 (And.intro v4 v3))
 have HX := Lib.hid hx
 have HROW := Lib.hid hrow0
 clear hr r3 d0 d1 d2 hg hO v1 v4 v2 v3 hsh w3 hcu hx hrow0 hu0 hur hvr hz0 hzB
 unfold sackV
 go_enter_defers Tryz.func96, Tryz.ntmps96
 go_upto_region 2 with fail
 rw [← hwB, ← hw0]
 clear hwB hw0
 have hcl0 := HRS.out w0 (Ext.refl _)
 go_cut [4] from 17 to 94 (fun s4 W => s4 = .pointer (some ⟨w.heap.size, 0, none⟩) ∧ ∃ a2 c2, Ext wB W ∧ Box2 W (w.heap.size + 4) (.slice a2 (x.org.length + 1) c2) (.slice none 0 0) ∧ (W.cell? ⟨w.heap.size + 5, 0, none⟩ = some (.bool false) ∧ W.frozen? ⟨w.heap.size + 5, 0, none⟩ = false) ∧ PairsOff (· < w0.heap.size) W (.slice a2 (x.org.length + 1) c2) (x.org ++ [((r : Int), (y : Int))]))
 case first =>
  refine wp_region_noPanic ?_
  refine wp_region_held_drew (S := (fun W => W.cell? ⟨w.heap.size + 1, 0, none⟩ = some (.slice oa x.org.length oc) ∧ W.cell? ⟨w.heap.size + 3, 0, none⟩ = some (.int .i64 r) ∧ W.cell? ⟨w.heap.size + 3, 1, none⟩ = some (.int .i64 y))) (by kernel_rfl) ?_ (fun hHeld => ?_)
  ·exact HS2.out _ (by repeat (first | exact hxe | exact hx0 | exact Ext.refl _ | apply Ext.drew | apply Ext.alloc | refine Ext.setCell ?_ (by have := HZB.out; simp only []; omega) _))
  refine hTk (i := 0) (d := some 17) (v := ?_) (fun o ho => ?_) hHeld ?_
  rotate_left
  ·simp only [zA, zB, zD] at ho
   subst ho
   refine ⟨by rfl, fun w hSw => ?_⟩
   (try dsimp only at hSw)
   go_simp
   try with_reducible rfl
  try simp only [Act.put, yA, yB, yC]
  refine hTk (i := 1) (d := some 18) (v := ?_) (fun o ho => ?_) hHeld ?_
  rotate_left
  ·simp only [zA, zB, zC, zD] at ho
   subst ho
   refine ⟨by rfl, fun w hSw => ?_⟩
   (try dsimp only at hSw)
   go_simp
   try with_reducible rfl
  try simp only [Act.put, yA, yB, yC]
  refine hTk (i := 3) (d := some 20) (v := ?_) (fun o ho => ?_) hHeld ?_
  rotate_left
  ·simp only [zA, zB, zC, zD] at ho
   subst ho
   refine ⟨by rfl, fun w hSw => ?_⟩
   (try dsimp only at hSw)
   go_simp
   try with_reducible rfl
  try simp only [Act.put, yA, yB, yC]
  refine wpAnyH_ready (rs := [2, 4]) (by kernel_rfl) (by simp) ?_
  refine held_step (i := 2) (by kernel_rfl) (fun o ho K' hK => ?_) ?_
  ·simp only [zA, zB, zC, zD] at ho
   subst ho
   go_simp
   go_at_call 124
   refine (HC1.out w0.drew (by repeat (first | exact hx0 | apply Ext.drew | apply Ext.alloc))).mono ?_
   rintro e w1 ⟨u, rfl, own1, hx1⟩
   have hx01 : Ext w0 w1 := (by repeat (first | exact Ext.refl _ | apply Ext.drew | apply Ext.alloc) : Ext w0 w0.drew).trans hx1
   have hxe := hx0.trans hx01
   have hlow : w0.heap.size ≤ w0.drew.heap.size := (by repeat (first | exact Ext.refl _ | apply Ext.drew | apply Ext.alloc) : Ext w0 w0.drew).size
   obtain ⟨ua1, uc1, rfl, _⟩ := RowAt.open (RowAt.of_owns own1)
   try go_simp
   refine hK.out _ _ ?_ (fun hHeld => ?_)
   ·exact HS2.out _ (by repeat (first | exact hxe | exact hx0 | exact Ext.refl _ | apply Ext.drew | apply Ext.alloc | refine Ext.setCell ?_ (by have := HZB.out; simp only []; omega) _))
   clear hK K'
   try simp only [yA, yB, yC]
   refine wpAnyH_ready (rs := [4]) (by kernel_rfl) (by simp) ?_
   refine held_step (i := 4) (by kernel_rfl) (fun o ho K' hK => ?_) ?_
   ·simp only [zA, zB, zC, zD] at ho
    subst ho
    go_simp
    refine hK.out _ _ ?_ (fun hHeld => ?_)
    ·exact HS2.out _ (by repeat (first | exact hxe | exact hx0 | exact Ext.refl _ | apply Ext.drew | apply Ext.alloc | refine Ext.setCell ?_ (by have := HZB.out; simp only []; omega) _))
    clear hK K'
    try simp only [yA, yB, yC]
    refine wpAnyH_ready (rs := [5]) (by kernel_rfl) (by simp) ?_
    refine held_step (i := 5) (by kernel_rfl) (fun o ho K' hK => ?_) ?_
    ·simp only [zA, zB, zC, zD] at ho
     subst ho
     refine step_append_row E_pairs (by rfl) _ _ (by rfl) _ (by rfl) (own1.alloc (Obj.cells #[.int .i64 r, .int .i64 y] 84)) (by rfl) (RowAt.new1 w1 #[.int .i64 r, .int .i64 y] 84) (by rfl) (by simp [Value.oneCell']) HSM.out.1 HSM.out.2 (Nat.le_trans hx1.size ((Ext.refl w1).alloc _).size) ?_
     intro v2 w2 hown2 hgrow _
     have hx02 : Ext w0 w2 := Ext.grown (hx01.alloc _) hgrow (fun k hk => Nat.le_trans hlow (owns_block own1 k hk))
     have hxe2 := hx0.trans hx02
     clear hxe
     have hxe := hxe2
     clear hxe2
     obtain ⟨a2, c2, rfl, _⟩ := RowAt.open (RowAt.of_owns hown2)
     have hpo : PairsOff (· < w0.heap.size) w2 (.slice a2 (x.org.length + 1) c2) (x.org ++ [((r : Int), (y : Int))]) := PairsOff.of_owns (by simpa [pairC] using hown2) (fun i hi => Nat.lt_of_lt_of_le hi hlow)
     obtain ⟨hbx2, hbl2, hbf2⟩ := HRS.out _ hx02
     have HBX := Lib.hid hbx2
     obtain ⟨k0, k1, k2, k3⟩ := hbx2
     refine hK.out _ _ ?_ (fun hHeld => ?_)
     ·exact HS2.out _ (by repeat (first | exact hxe | exact hx0 | exact Ext.refl _ | apply Ext.drew | apply Ext.alloc | refine Ext.setCell ?_ (by have := HZB.out; simp only []; omega) _))
     clear hK K'
     refine hTk (i := 6) (d := some 23) (v := ?_) (fun o ho => ?_) hHeld ?_
     rotate_left
     ·simp only [zA, zB, zC, zD] at ho
      subst ho
      refine ⟨by rfl, fun w hSw => ?_⟩
      (try dsimp only at hSw)
      go_simp
      try with_reducible rfl
     try simp only [Act.put, yA, yB, yC]
     refine wpAnyH_ready (rs := [7]) (by kernel_rfl) (by simp) ?_
     refine held_step (i := 7) (by kernel_rfl) (fun o ho K' hK => ?_) ?_
     ·simp only [zA, zB, zC, zD] at ho
      subst ho
      go_simp
      refine hK.out _ _ ?_ (fun hHeld => ?_)
      ·exact HS2.out _ (by repeat (first | exact hxe | exact hx0 | exact Ext.refl _ | apply Ext.drew | apply Ext.alloc | refine Ext.setCell ?_ (by have := HZB.out; simp only []; omega) _))
      clear hK K'
      try simp only [yA, yB, yC]
      refine wpAnyH_done (by kernel_rfl) ?_ _
      refine NoPanic.normal ?_
      try simp only [yA, yB, yC]
      have hT : Touch (· = w.heap.size + 4) w2 (w2.setCell ⟨w.heap.size + 4, 0, none⟩ (.slice a2 (x.org.length + 1) c2)) := Touch.setCell _ rfl
      have hb5 := hT.cell hbl2 (by simp)
      have hf5 := (hT.frozen hbl2 (by simp)).trans hbf2
      have hpo5 := (hpo.touch (hT.mono (fun i hi => by have := HZ0.out; omega)))
      have hx5 := hxe.setCell (p := ⟨w.heap.size + 4, 0, none⟩) (by have := HZB.out; simp only []; omega) (.slice a2 (x.org.length + 1) c2)
      have hbb : Box2 (w2.setCell ⟨w.heap.size + 4, 0, none⟩ (.slice a2 (x.org.length + 1) c2)) (w.heap.size + 4) (.slice a2 (x.org.length + 1) c2) (.slice none 0 0) := ⟨by go_simp, by go_simp, by go_simp, by go_simp⟩
      go_wp2_with fail
      go_meet
      exact ⟨rfl, a2, c2, hx5, hbb, ⟨hb5, hf5⟩, hpo5⟩
     exact AllReadyH.nil
    exact AllReadyH.nil
   exact AllReadyH.nil
  refine held_step (i := 4) (by kernel_rfl) (fun o ho K' hK => ?_) ?_
  ·simp only [zA, zB, zC, zD] at ho
   subst ho
   go_simp
   refine hK.out _ _ ?_ (fun hHeld => ?_)
   ·exact HS2.out _ (by repeat (first | exact hxe | exact hx0 | exact Ext.refl _ | apply Ext.drew | apply Ext.alloc | refine Ext.setCell ?_ (by have := HZB.out; simp only []; omega) _))
   clear hK K'
   try simp only [yA, yB, yC]
   refine wpAnyH_ready (rs := [2]) (by kernel_rfl) (by simp) ?_
   refine held_step (i := 2) (by kernel_rfl) (fun o ho K' hK => ?_) ?_
   ·simp only [zA, zB, zC, zD] at ho
    subst ho
    go_simp
    go_at_call 124
    refine (HC1.out (w0.drew.alloc (.cells #[.int .i64 r, .int .i64 y] 84)) (by repeat (first | exact hx0 | apply Ext.drew | apply Ext.alloc))).mono ?_
    rintro e w1 ⟨u, rfl, own1, hx1⟩
    have hx01 : Ext w0 w1 := (by repeat (first | exact Ext.refl _ | apply Ext.drew | apply Ext.alloc) : Ext w0 (w0.drew.alloc (.cells #[.int .i64 r, .int .i64 y] 84))).trans hx1
    have hxe := hx0.trans hx01
    have hlow : w0.heap.size ≤ (w0.drew.alloc (.cells #[.int .i64 r, .int .i64 y] 84)).heap.size := (by repeat (first | exact Ext.refl _ | apply Ext.drew | apply Ext.alloc) : Ext w0 (w0.drew.alloc (.cells #[.int .i64 r, .int .i64 y] 84))).size
    obtain ⟨ua1, uc1, rfl, _⟩ := RowAt.open (RowAt.of_owns own1)
    try go_simp
    refine hK.out _ _ ?_ (fun hHeld => ?_)
    ·exact HS2.out _ (by repeat (first | exact hxe | exact hx0 | exact Ext.refl _ | apply Ext.drew | apply Ext.alloc | refine Ext.setCell ?_ (by have := HZB.out; simp only []; omega) _))
    clear hK K'
    try simp only [yA, yB, yC]
    refine wpAnyH_ready (rs := [5]) (by kernel_rfl) (by simp) ?_
    refine held_step (i := 5) (by kernel_rfl) (fun o ho K' hK => ?_) ?_
    ·simp only [zA, zB, zC, zD] at ho
     subst ho
     refine step_append_row E_pairs (by rfl) _ _ (by rfl) _ (by rfl) own1 (by rfl) ((RowAt.new1 w0.drew #[.int .i64 r, .int .i64 y] 84).ext hx1) (by rfl) (by simp [Value.oneCell']) HSM.out.1 HSM.out.2 hx1.size ?_
     intro v2 w2 hown2 hgrow _
     have hx02 : Ext w0 w2 := Ext.grown hx01 hgrow (fun k hk => Nat.le_trans hlow (owns_block own1 k hk))
     have hxe2 := hx0.trans hx02
     clear hxe
     have hxe := hxe2
     clear hxe2
     obtain ⟨a2, c2, rfl, _⟩ := RowAt.open (RowAt.of_owns hown2)
     have hpo : PairsOff (· < w0.heap.size) w2 (.slice a2 (x.org.length + 1) c2) (x.org ++ [((r : Int), (y : Int))]) := PairsOff.of_owns (by simpa [pairC] using hown2) (fun i hi => Nat.lt_of_lt_of_le hi hlow)
     obtain ⟨hbx2, hbl2, hbf2⟩ := HRS.out _ hx02
     have HBX := Lib.hid hbx2
     obtain ⟨k0, k1, k2, k3⟩ := hbx2
     refine hK.out _ _ ?_ (fun hHeld => ?_)
     ·exact HS2.out _ (by repeat (first | exact hxe | exact hx0 | exact Ext.refl _ | apply Ext.drew | apply Ext.alloc | refine Ext.setCell ?_ (by have := HZB.out; simp only []; omega) _))
     clear hK K'
     refine hTk (i := 6) (d := some 23) (v := ?_) (fun o ho => ?_) hHeld ?_
     rotate_left
     ·simp only [zA, zB, zC, zD] at ho
      subst ho
      refine ⟨by rfl, fun w hSw => ?_⟩
      (try dsimp only at hSw)
      go_simp
      try with_reducible rfl
     try simp only [Act.put, yA, yB, yC]
     refine wpAnyH_ready (rs := [7]) (by kernel_rfl) (by simp) ?_
     refine held_step (i := 7) (by kernel_rfl) (fun o ho K' hK => ?_) ?_
     ·simp only [zA, zB, zC, zD] at ho
      subst ho
      go_simp
      refine hK.out _ _ ?_ (fun hHeld => ?_)
      ·exact HS2.out _ (by repeat (first | exact hxe | exact hx0 | exact Ext.refl _ | apply Ext.drew | apply Ext.alloc | refine Ext.setCell ?_ (by have := HZB.out; simp only []; omega) _))
      clear hK K'
      try simp only [yA, yB, yC]
      refine wpAnyH_done (by kernel_rfl) ?_ _
      refine NoPanic.normal ?_
      try simp only [yA, yB, yC]
      have hT : Touch (· = w.heap.size + 4) w2 (w2.setCell ⟨w.heap.size + 4, 0, none⟩ (.slice a2 (x.org.length + 1) c2)) := Touch.setCell _ rfl
      have hb5 := hT.cell hbl2 (by simp)
      have hf5 := (hT.frozen hbl2 (by simp)).trans hbf2
      have hpo5 := (hpo.touch (hT.mono (fun i hi => by have := HZ0.out; omega)))
      have hx5 := hxe.setCell (p := ⟨w.heap.size + 4, 0, none⟩) (by have := HZB.out; simp only []; omega) (.slice a2 (x.org.length + 1) c2)
      have hbb : Box2 (w2.setCell ⟨w.heap.size + 4, 0, none⟩ (.slice a2 (x.org.length + 1) c2)) (w.heap.size + 4) (.slice a2 (x.org.length + 1) c2) (.slice none 0 0) := ⟨by go_simp, by go_simp, by go_simp, by go_simp⟩
      go_wp2_with fail
      go_meet
      exact ⟨rfl, a2, c2, hx5, hbb, ⟨hb5, hf5⟩, hpo5⟩
     exact AllReadyH.nil
    exact AllReadyH.nil
   exact AllReadyH.nil
  exact AllReadyH.nil
 case rest =>
  obtain ⟨rfl, a2, c2, hxc, hb1, ⟨hbl, hbf⟩, hpo⟩ := hcut
  obtain ⟨b0, b1, b2, b3, b4, b5, b6, b7⟩ := HS.out wc hxc
  have hwb : wb < w.heap.size := lt_of_cell HWB.out
  have hne1 : ¬ wb = w.heap.size + 4 := by omega
  have hne2 : ¬ w.heap.size + 4 = wb := by omega
  have j1 : (0 : Int) ≤ (r : Int) := by omega
  have j2 : (r : Int) < (x.wea.length : Int) := by omega
  have j3 : (r : Int) < (b.rivers.length : Int) := by omega
  have HPO := Lib.hid hpo
  have HB1 := Lib.hid hb1
  have HBL := Lib.hid (And.intro hbl hbf)
  clear hpo hb1
  go_upto_region 5 with (first
   | (go_at_call 125; refine (HC2.out _ hxc).mono ?_; rintro e w3 ⟨u3, rfl, own3, hx3⟩; obtain ⟨p3, q3, rfl, _⟩ := RowAt.open (RowAt.of_owns own3); have hx3w := hxc.trans hx3; obtain ⟨k0, k1, k2, k3⟩ := HB1.out.ext hx3; clear b0 b1 b2 b3 b4 b5 b6 b7; obtain ⟨b0, b1, b2, b3, b4, b5, b6, b7⟩ := HS.out w3 hx3w; have hq3 := (HD.out w3 (hxB.trans hx3w)).1)
   | (go_at_call 51; refine (HC3.out _ (hx3w.setCell (by have := HZB.out; simp only []; omega) _)).mono ?_; rintro e w5 ⟨u5, rfl, own5, hx5⟩))
  obtain ⟨gw, hgw⟩ : ∃ gw, p3 = some ⟨gw, 0, none⟩ := by
   obtain ⟨nn, hnn⟩ : ∃ nn, x.wea.length = nn + 1 := ⟨x.wea.length - 1, by omega⟩
   have o3 := own3
   rw [hnn] at o3
   obtain ⟨gw, cw, he⟩ := owns_succ o3
   cases he
   exact ⟨gw, rfl⟩
  subst hgw
  obtain ⟨N, hN⟩ : ∃ N, row0.length = N + 1 := ⟨row0.length - 1, by have := HX.out.row row0 (List.mem_of_getElem? HROW.out); have := hB.y1; omega⟩
  have own5' := own5
  rw [hN] at own5'
  obtain ⟨g5, c5, hu5⟩ := owns_succ own5'
  rw [← hN] at hu5
  subst hu5
  obtain ⟨W4, hW4⟩ : ∃ W4, W4 = w3.setCell ⟨w.heap.size + 4, 1, none⟩ (.slice (some ⟨gw, 0, none⟩) x.wea.length q3) := ⟨_, rfl⟩
  have HN := Lib.hid hN
  change w5.ownsRow (w3.setCell ⟨w.heap.size + 4, 1, none⟩ (.slice (some ⟨gw, 0, none⟩) x.wea.length q3)).heap.size _ _ _ _ _ at own5
  change Ext (w3.setCell ⟨w.heap.size + 4, 1, none⟩ (.slice (some ⟨gw, 0, none⟩) x.wea.length q3)) w5 at hx5
  have hs3 : W4.heap.size = w3.heap.size := by rw [hW4]; simp
  have hT4 : Touch (· = w.heap.size + 4) w3 W4 := by rw [hW4]; exact Touch.setCell _ rfl
  have hxW4 : Ext wB W4 := by rw [hW4]; exact hx3w.setCell (by have := HZB.out; simp only []; omega) _
  have hbW4 : Box2 W4 (w.heap.size + 4) (.slice a2 (x.org.length + 1) c2) (.slice (some ⟨gw, 0, none⟩) x.wea.length q3) := by rw [hW4]; exact ⟨by go_simp, by go_simp, by go_simp, by go_simp⟩
  rw [← hW4] at own5 hx5
  have hcs : w.heap.size + 6 ≤ wc.heap.size := by have := lt_of_cell HBL.out.1; simp only at this; omega
  have h3s := hx3.size
  have h5s := hx5.size
  have hblW : W4.cell? ⟨w.heap.size + 5, 0, none⟩ = some (.bool false) ∧ W4.frozen? ⟨w.heap.size + 5, 0, none⟩ = false :=
   ⟨hT4.cell (hx3.cell HBL.out.1) (by simp), (hT4.frozen (hx3.cell HBL.out.1) (by simp)).trans ((hx3.frozen (lt_of_cell HBL.out.1)).trans HBL.out.2)⟩
  have hbl5 : w5.cell? ⟨w.heap.size + 5, 0, none⟩ = some (.bool false) ∧ w5.frozen? ⟨w.heap.size + 5, 0, none⟩ = false :=
   ⟨hx5.cell hblW.1, (hx5.frozen (lt_of_cell hblW.1)).trans hblW.2⟩
  have hww : WithW x ((r : Int), (y : Int)) x.wea.length vs w0.heap.size wc.heap.size W4.heap.size w w5 (.slice a2 (x.org.length + 1) c2) (.slice (some ⟨gw, 0, none⟩) x.wea.length q3) (w.heap.size + 4) := by
   refine ⟨hbW4.ext hx5, ?_, owns_ext (owns_touch (owns_ext own3 (Ext.refl _)) hT4 (fun g hg => by have := owns_block own3 g hg; omega)) hx5, fun g hg => by rw [hs3]; exact (World.ownsRow.lt own3 g hg).2⟩
   have h1 := (((HPO.out.ext hx3).touch (hT4.mono (fun i hi => by have := HZ0.out; omega))).ext hx5)
   refine ⟨h1.1, fun a n c ha hm => ?_⟩
   rcases hm with hm | hm
   ·exact h1.2 a n c ha hm
   ·have := block_lt (ha ▸ HPO.out.1) (by simp)
    omega
  have HWW := Lib.hid hww
  have HB5 := Lib.hid hbl5
  have hx5B := hxW4.trans hx5
  clear b0 b1 b2 b3 b4 b5 b6 b7
  obtain ⟨b0, b1, b2, b3, b4, b5, b6, b7⟩ := HS.out w5 hx5B
  have hq5 := (HD.out w5 (hxB.trans hx5B)).2
  have hvy := hB.vary R (List.mem_of_getElem? hR.out)
  have hof := hS.off
  have hrl1 := hS.n1
  have hrl2 := hS.n2
  have hy6 := hB.y2
  have HOWN5 := Lib.hid own5
  have HX5 := Lib.hid hx5B
  have hg5 : W4.heap.size ≤ g5 := owns_block own5 g5 rfl
  have hW4s : w.heap.size + 6 ≤ W4.heap.size := by omega
  have hWcW : wc.heap.size ≤ W4.heap.size := by omega
  clear own5 own5' hN hW4 hs3 hT4 hxW4 hbW4 h3s hblW hbl5 hww own3 hx3 hx5 k0 k1 k2 k3 hx3w hxc hbl hbf hx5B h5s hq3
  go_quiet (fail)
  go_wp2
  obtain ⟨w7, hw7⟩ : ∃ w7, w7 = w5.drewN nq := ⟨_, rfl⟩
  rw [← hw7]
  have hx7 : Ext w5 w7 := by rw [hw7]; exact (Ext.refl w5).drewN nq
  clear hw7 b0 b1 b2 b3 b4 b5 b6 b7 hq5
  have hfirst : narrowL ((riverOf b (((r : Int), (y : Int)) : Org).1).vary + s.off) s.rings (firstY ((r : Int), (y : Int)) s) (x.wea.getD (((r : Int), (y : Int)) : Org).1.toNat []) = narrowL (R.vary + s.off) s.rings (y + 1 - s.rings.length) row0 := by
   have e1 : riverOf b ((r : Int), (y : Int)).1 = R := riverOf_at hR.out
   have e2 : x.wea.getD (((r : Int), (y : Int)) : Org).1.toNat [] = row0 := by rw [List.getD_eq_getElem?_getD]; simp only [Int.toNat_natCast]; rw [HROW.out]; rfl
   have e3 : firstY ((r : Int), (y : Int)) s = y + 1 - s.rings.length := by unfold firstY; simp
   rw [e1, e2, e3]
  obtain ⟨fy, hfy⟩ : ∃ fy : Nat, fy = y + 1 - s.rings.length := ⟨_, rfl⟩
  have hown7 := owns_ext HOWN5.out hx7
  have HFY := Lib.hid hfy
  rw [← hfy] at hfirst
  have HFIRST := Lib.hid hfirst
  clear hfy hfirst
  go_loopw [56] (fun i wr => ∃ (k : Nat) (rw : List (Int × Int)), k ≤ s.rings.length ∧ i = .int .i64 k ∧ Touch (fun j => W4.heap.size ≤ j) w7 wr ∧ wr.ownsRow W4.heap.size 52 2 (.slice (some ⟨g5, 0, none⟩) row0.length c5) row0.length (rw.flatMap pairC) ∧ Hid (rw.length = row0.length) ∧
   Hid (narrowL (R.vary + s.off) (s.rings.drop k) (fy + k) rw = narrowL (R.vary + s.off) s.rings fy row0)) (fun i _ => s.rings.length - (intOf i).toNat)
  case atStart => exact ⟨0, row0, Nat.zero_le _, rfl, Touch.refl _ _, hown7, rfl, by simp [Hid]⟩
  case round =>
   obtain ⟨k, rw, hk, rfl, ht, hown, hrl, hnr⟩ := hrel
   have hxr : Ext wB wr := Touch.ext (HX5.out.trans hx7) ht (fun i hi => by have := HZB.out; omega)
   obtain ⟨b0, b1, b2, b3, b4, b5, b6, b7⟩ := HS.out wr hxr
   by_cases hlt : k < s.rings.length
   ·obtain ⟨gb, go, n, rfl, hnk, hcn⟩ := g3 k hlt
    have hdn := (hxB.trans hxr).cell hcn
    have hnb := hS.ring n (List.mem_of_getElem? hnk.out)
    obtain ⟨p, hp⟩ : ∃ p, p = fy + k := ⟨_, rfl⟩
    have hpi : (y : Int) - (s.rings.length : Int) + 1 + (k : Int) = (p : Int) := by have := HFY.out; omega
    have hrow := HX.out.row row0 (List.mem_of_getElem? HROW.out)
    have hpl : p < row0.length := by omega
    have hpr : p < rw.length := by rw [hrl.out]; exact hpl
    obtain ⟨q, hq⟩ : ∃ q, rw[p]? = some q := ⟨rw[p], by simp [hpr]⟩
    obtain ⟨c0, c1⟩ := pair_cells hown hq hpl
    have e0 := hown.frozenAt (p * 2)
    have e1 := hown.frozenAt (p * 2 + 1)
    have hgl := lt_of_cell c0
    simp only at hgl
    have p1 : (0 : Int) ≤ (p : Int) := by omega
    have p2 : (p : Int) < (row0.length : Int) := by omega
    have hstep := narrowL_step (off := R.vary + s.off) (n := n) (ns := s.rings.drop (k + 1)) hq
    have hdrop : s.rings.drop k = n :: s.rings.drop (k + 1) := by
     obtain ⟨hl, he⟩ := List.getElem?_eq_some_iff.1 hnk.out
     rw [← he, List.drop_eq_getElem_cons hl]
    have hnr2 := hnr.out
    rw [hdrop, ← hp, hstep] at hnr2
    have HNAR := Lib.hid (fun (W w1 : World) (m : Nat) (hm : m = W.heap.size) (hx : Ext (W.alloc (.cells #[.int .i64 q.1, .int .i64 q.2, .int .i64 (n - (R.vary + s.off)), .int .i64 (n + (R.vary + s.off))] 52)) w1) => (by
     subst hm
     exact narrow_any (.slice (some ⟨W.heap.size, 0, none⟩) 2 2) r (p : Int) q (n - (R.vary + s.off), n + (R.vary + s.off)) w1 ((PairsAt.new2 W q (n - (R.vary + s.off), n + (R.vary + s.off)) _).ext hx) :
     Calls Tryz.prog 126 #[.int .i64 r, .int .i64 p, .slice (some ⟨m, 0, none⟩) 2 2] w1 (NarrowPost r p (meet q n (R.vary + s.off)) w1)))
    have HDN := Lib.hid hnb
    have HOWR := Lib.hid hown
    have HCC := Lib.hid (And.intro c0 (And.intro c1 (And.intro e0 e1)))
    have HB6 := Lib.hid b6
    have hlt' : decide ((k : Int) < (s.rings.length : Int)) = true := by simpa using hlt
    have w1' : IntKind.i64.wrap (n - (R.vary + s.off)) = n - (R.vary + s.off) := IntWalk.i64_in _ (by omega)
    have w2' : IntKind.i64.wrap (n + (R.vary + s.off)) = n + (R.vary + s.off) := IntWalk.i64_in _ (by omega)
    have w3' : IntKind.i64.wrap ((y : Int) - (s.rings.length : Int) + 1 + (k : Int)) = (p : Int) := by rw [hpi]; exact IntWalk.i64_in _ (by omega)
    have w4' : IntKind.i64.wrap (p : Int) = (p : Int) := IntWalk.i64_in _ (by omega)
    have HSR := Lib.hid (fun W (h : Ext wr W) => (⟨h.cell b6, h.cell c0, h.cell c1⟩ : W.cell? ⟨w.heap.size + 3, 0, none⟩ = some (.int .i64 r) ∧ W.cell? ⟨g5, p * 2, none⟩ = some (.int .i64 q.1) ∧ W.cell? ⟨g5, p * 2 + 1, none⟩ = some (.int .i64 q.2)))
    have HPK := Lib.hid hp
    clear hcn hq hstep hdrop hrow hp g3 b0 b1 b2 b3 b5 b6 b7 c0 c1 e0 e1 hnr
    by_cases hbad : (meet q n (R.vary + s.off)).2 < (meet q n (R.vary + s.off)).1
    ·rw [if_pos hbad] at hnr2
     have HBAD := Lib.hid hnr2
     clear hnr2
     go_upto_region 10 with fail
     refine wp_region_held_drew (S := (fun W => W.cell? ⟨w.heap.size + 3, 0, none⟩ = some (.int .i64 r) ∧ W.cell? ⟨g5, p * 2, none⟩ = some (.int .i64 q.1) ∧ W.cell? ⟨g5, p * 2 + 1, none⟩ = some (.int .i64 q.2))) (by kernel_rfl) ?_ (fun hHeld => ?_)
     ·exact HSR.out _ (by repeat (first | exact hxn | exact Ext.refl _ | apply Ext.drew | apply Ext.alloc | refine Ext.setCell ?_ (by simp) _))
     refine held_take (i := 0) (d := some 61) (v := ?_) (by kernel_rfl) (by kernel_rfl) (by kernel_rfl) (by kernel_rfl) (fun _ _ _ h => with_put (by decide) (by decide) h) (fun o ho => ?_) hHeld ?_
     rotate_left
     ·simp only [zA, zB, zD] at ho
      subst ho
      refine ⟨by rfl, fun w hSw => ?_⟩
      (try dsimp only at hSw)
      go_simp
      try with_reducible rfl
     try simp only [Act.put, yA, yB, yC]
     refine held_take (i := 1) (d := some 62) (v := ?_) (by kernel_rfl) (by kernel_rfl) (by kernel_rfl) (by kernel_rfl) (fun _ _ _ h => with_put (by decide) (by decide) h) (fun o ho => ?_) hHeld ?_
     rotate_left
     ·simp only [zA, zB, zC, zD] at ho
      subst ho
      refine ⟨by rfl, fun w hSw => ?_⟩
      (try dsimp only at hSw)
      go_simp
      try with_reducible rfl
     try simp only [Act.put, yA, yB, yC]
     refine held_take (i := 2) (d := some 63) (v := ?_) (by kernel_rfl) (by kernel_rfl) (by kernel_rfl) (by kernel_rfl) (fun _ _ _ h => with_put (by decide) (by decide) h) (fun o ho => ?_) hHeld ?_
     rotate_left
     ·simp only [zA, zB, zC, zD] at ho
      subst ho
      refine ⟨by rfl, fun w hSw => ?_⟩
      (try dsimp only at hSw)
      go_simp
      try with_reducible rfl
     try simp only [Act.put, yA, yB, yC]
     refine held_take (i := 3) (d := some 64) (v := ?_) (by kernel_rfl) (by kernel_rfl) (by kernel_rfl) (by kernel_rfl) (fun _ _ _ h => with_put (by decide) (by decide) h) (fun o ho => ?_) hHeld ?_
     rotate_left
     ·simp only [zA, zB, zC, zD] at ho
      subst ho
      refine ⟨by rfl, fun w hSw => ?_⟩
      (try dsimp only at hSw)
      go_simp
      try with_reducible rfl
     try simp only [Act.put, yA, yB, yC]
     refine held_take (i := 4) (d := some 65) (v := ?_) (by kernel_rfl) (by kernel_rfl) (by kernel_rfl) (by kernel_rfl) (fun _ _ _ h => with_put (by decide) (by decide) h) (fun o ho => ?_) hHeld ?_
     rotate_left
     ·simp only [zA, zB, zC, zD] at ho
      subst ho
      refine ⟨by rfl, fun w hSw => ?_⟩
      (try dsimp only at hSw)
      go_simp
      try with_reducible rfl
     try simp only [Act.put, yA, yB, yC]
     refine held_take (i := 5) (d := some 66) (v := ?_) (by kernel_rfl) (by kernel_rfl) (by kernel_rfl) (by kernel_rfl) (fun _ _ _ h => with_put (by decide) (by decide) h) (fun o ho => ?_) hHeld ?_
     rotate_left
     ·simp only [zA, zB, zC, zD] at ho
      subst ho
      refine ⟨by rfl, fun w hSw => ?_⟩
      (try dsimp only at hSw)
      go_simp
      try with_reducible rfl
     try simp only [Act.put, yA, yB, yC]
     refine held_take (i := 6) (d := some 67) (v := ?_) (by kernel_rfl) (by kernel_rfl) (by kernel_rfl) (by kernel_rfl) (fun _ _ _ h => with_put (by decide) (by decide) h) (fun o ho => ?_) hHeld ?_
     rotate_left
     ·simp only [zA, zB, zC, zD] at ho
      subst ho
      refine ⟨by rfl, fun w hSw => ?_⟩
      (try dsimp only at hSw)
      go_simp
      try with_reducible rfl
     try simp only [Act.put, yA, yB, yC]
     refine held_take (i := 7) (d := some 68) (v := ?_) (by kernel_rfl) (by kernel_rfl) (by kernel_rfl) (by kernel_rfl) (fun _ _ _ h => with_put (by decide) (by decide) h) (fun o ho => ?_) hHeld ?_
     rotate_left
     ·simp only [zA, zB, zC, zD] at ho
      subst ho
      refine ⟨by rfl, fun w hSw => ?_⟩
      (try dsimp only at hSw)
      go_simp
      try with_reducible rfl
     try simp only [Act.put, yA, yB, yC]
     refine held_take (i := 8) (d := some 69) (v := ?_) (by kernel_rfl) (by kernel_rfl) (by kernel_rfl) (by kernel_rfl) (fun _ _ _ h => with_put (by decide) (by decide) h) (fun o ho => ?_) hHeld ?_
     rotate_left
     ·simp only [zA, zB, zC, zD] at ho
      subst ho
      refine ⟨by rfl, fun w hSw => ?_⟩
      (try dsimp only at hSw)
      go_simp
      try with_reducible rfl
     try simp only [Act.put, yA, yB, yC]
     refine held_take (i := 9) (d := some 70) (v := ?_) (by kernel_rfl) (by kernel_rfl) (by kernel_rfl) (by kernel_rfl) (fun _ _ _ h => with_put (by decide) (by decide) h) (fun o ho => ?_) hHeld ?_
     rotate_left
     ·simp only [zA, zB, zC, zD] at ho
      subst ho
      refine ⟨by rfl, fun w hSw => ?_⟩
      (try dsimp only at hSw)
      go_simp
      try with_reducible rfl
     try simp only [Act.put, yA, yB, yC]
     refine held_take (i := 10) (d := some 71) (v := ?_) (by kernel_rfl) (by kernel_rfl) (by kernel_rfl) (by kernel_rfl) (fun _ _ _ h => with_put (by decide) (by decide) h) (fun o ho => ?_) hHeld ?_
     rotate_left
     ·simp only [zA, zB, zC, zD] at ho
      subst ho
      refine ⟨by rfl, fun w hSw => ?_⟩
      (try dsimp only at hSw)
      go_simp
      try with_reducible rfl
     try simp only [Act.put, yA, yB, yC]
     refine held_take (i := 11) (d := some 72) (v := ?_) (by kernel_rfl) (by kernel_rfl) (by kernel_rfl) (by kernel_rfl) (fun _ _ _ h => with_put (by decide) (by decide) h) (fun o ho => ?_) hHeld ?_
     rotate_left
     ·simp only [zA, zB, zC, zD] at ho
      subst ho
      refine ⟨by rfl, fun w hSw => ?_⟩
      (try dsimp only at hSw)
      go_simp
      try with_reducible rfl
     try simp only [Act.put, yA, yB, yC]
     refine held_take (i := 12) (d := some 73) (v := ?_) (by kernel_rfl) (by kernel_rfl) (by kernel_rfl) (by kernel_rfl) (fun _ _ _ h => with_put (by decide) (by decide) h) (fun o ho => ?_) hHeld ?_
     rotate_left
     ·simp only [zA, zB, zC, zD] at ho
      subst ho
      refine ⟨by rfl, fun w hSw => ?_⟩
      (try dsimp only at hSw)
      go_simp
      try with_reducible rfl
     try simp only [Act.put, yA, yB, yC]
     refine held_take (i := 13) (d := some 74) (v := ?_) (by kernel_rfl) (by kernel_rfl) (by kernel_rfl) (by kernel_rfl) (fun _ _ _ h => with_put (by decide) (by decide) h) (fun o ho => ?_) hHeld ?_
     rotate_left
     ·simp only [zA, zB, zC, zD] at ho
      subst ho
      refine ⟨by rfl, fun w hSw => ?_⟩
      (try dsimp only at hSw)
      go_simp
      try with_reducible rfl
     try simp only [Act.put, yA, yB, yC]
     refine held_take (i := 14) (d := some 75) (v := ?_) (by kernel_rfl) (by kernel_rfl) (by kernel_rfl) (by kernel_rfl) (fun _ _ _ h => with_put (by decide) (by decide) h) (fun o ho => ?_) hHeld ?_
     rotate_left
     ·simp only [zA, zB, zC, zD] at ho
      subst ho
      refine ⟨by rfl, fun w hSw => ?_⟩
      (try dsimp only at hSw)
      go_simp
      try with_reducible rfl
     try simp only [Act.put, yA, yB, yC]
     refine held_take (i := 15) (d := some 76) (v := ?_) (by kernel_rfl) (by kernel_rfl) (by kernel_rfl) (by kernel_rfl) (fun _ _ _ h => with_put (by decide) (by decide) h) (fun o ho => ?_) hHeld ?_
     rotate_left
     ·simp only [zA, zB, zC, zD] at ho
      subst ho
      refine ⟨by rfl, fun w hSw => ?_⟩
      (try dsimp only at hSw)
      go_simp
      try with_reducible rfl
     try simp only [Act.put, yA, yB, yC]
     refine held_take (i := 16) (d := some 77) (v := ?_) (by kernel_rfl) (by kernel_rfl) (by kernel_rfl) (by kernel_rfl) (fun _ _ _ h => with_put (by decide) (by decide) h) (fun o ho => ?_) hHeld ?_
     rotate_left
     ·simp only [zA, zB, zC, zD] at ho
      subst ho
      refine ⟨by rfl, fun w hSw => ?_⟩
      (try dsimp only at hSw)
      go_simp
      try with_reducible rfl
     try simp only [Act.put, yA, yB, yC]
     refine held_take (i := 17) (d := some 78) (v := ?_) (by kernel_rfl) (by kernel_rfl) (by kernel_rfl) (by kernel_rfl) (fun _ _ _ h => with_put (by decide) (by decide) h) (fun o ho => ?_) hHeld ?_
     rotate_left
     ·simp only [zA, zB, zC, zD] at ho
      subst ho
      refine ⟨by rfl, fun w hSw => ?_⟩
      (try dsimp only at hSw)
      go_simp
      try with_reducible rfl
     try simp only [Act.put, yA, yB, yC]
     refine wpAnyH_ready (rs := [18, 20]) (by kernel_rfl) (by simp) ?_
     refine held_step (i := 18) (by kernel_rfl) (fun o ho K' hK => ?_) ?_
     ·simp only [zA, zB, zC, zD] at ho
      subst ho
      go_simp
      refine hK.out _ _ ?_ (fun hHeld => ?_)
      ·exact HSR.out _ (by repeat (first | exact hxn | exact Ext.refl _ | apply Ext.drew | apply Ext.alloc | refine Ext.setCell ?_ (by simp) _))
      clear hK K'
      try simp only [yA, yB, yC]
      refine wpAnyH_ready (rs := [19, 20]) (by kernel_rfl) (by simp) ?_
      refine held_step (i := 19) (by kernel_rfl) (fun o ho K' hK => ?_) ?_
      ·simp only [zA, zB, zC, zD] at ho
       subst ho
       go_simp
       go_at_call 126
       refine (HNAR.out wr.drew _ _ (by first | rfl | simp) (Ext.refl _)).mono ?_
       rintro e w9 ⟨hx9, he⟩
       have hxn : Ext wr w9 := (by repeat (first | exact Ext.refl _ | apply Ext.drew | apply Ext.alloc) : Ext wr ((wr.drew.alloc (.cells #[.int .i64 q.1, .int .i64 q.2, .int .i64 (n - (R.vary + s.off)), .int .i64 (n + (R.vary + s.off))] 52)))).trans hx9
       rw [if_pos hbad] at he
       subst he
       have hw9 := HWW.out.touch (Touch.trans (Touch.of_ext hx7) (ht.trans (Touch.of_ext hxn))) (by omega) hWcW
       have hc9 := hxn.cell (ht.cell (hx7.cell HB5.out.1) (by simp only []; omega))
       have hf9 := (hxn.frozen (lt_of_cell (ht.cell (hx7.cell HB5.out.1) (by simp only []; omega)))).trans ((ht.frozen (hx7.cell HB5.out.1) (by simp only []; omega)).trans ((hx7.frozen (lt_of_cell HB5.out.1)).trans HB5.out.2))
       exact with_panic (by rfl) (by rfl) (by unfold withB; have h1 := HFIRST.out; rw [h1, ← HBAD.out]; rfl) (hxB.trans (hxr.trans hxn)) hw9.box hc9 hf9 (by omega) (by omega) (by omega)
      refine held_step (i := 20) (by kernel_rfl) (fun o ho K' hK => ?_) ?_
      ·simp only [zA, zB, zC, zD] at ho
       subst ho
       go_simp
       refine hK.out _ _ ?_ (fun hHeld => ?_)
       ·exact HSR.out _ (by repeat (first | exact hxn | exact Ext.refl _ | apply Ext.drew | apply Ext.alloc | refine Ext.setCell ?_ (by simp) _))
       clear hK K'
       try simp only [yA, yB, yC]
       refine wpAnyH_ready (rs := [19]) (by kernel_rfl) (by simp) ?_
       refine held_step (i := 19) (by kernel_rfl) (fun o ho K' hK => ?_) ?_
       ·simp only [zA, zB, zC, zD] at ho
        subst ho
        go_simp
        go_at_call 126
        refine (HNAR.out wr.drew _ _ (by first | rfl | simp) ((Ext.refl _).alloc _)).mono ?_
        rintro e w9 ⟨hx9, he⟩
        have hxn : Ext wr w9 := (by repeat (first | exact Ext.refl _ | apply Ext.drew | apply Ext.alloc) : Ext wr ((wr.drew.alloc (.cells #[.int .i64 q.1, .int .i64 q.2, .int .i64 (n - (R.vary + s.off)), .int .i64 (n + (R.vary + s.off))] 52)).alloc (.cells #[.int .i64 0, .int .i64 0] 52))).trans hx9
        rw [if_pos hbad] at he
        subst he
        have hw9 := HWW.out.touch (Touch.trans (Touch.of_ext hx7) (ht.trans (Touch.of_ext hxn))) (by omega) hWcW
        have hc9 := hxn.cell (ht.cell (hx7.cell HB5.out.1) (by simp only []; omega))
        have hf9 := (hxn.frozen (lt_of_cell (ht.cell (hx7.cell HB5.out.1) (by simp only []; omega)))).trans ((ht.frozen (hx7.cell HB5.out.1) (by simp only []; omega)).trans ((hx7.frozen (lt_of_cell HB5.out.1)).trans HB5.out.2))
        exact with_panic (by rfl) (by rfl) (by unfold withB; have h1 := HFIRST.out; rw [h1, ← HBAD.out]; rfl) (hxB.trans (hxr.trans hxn)) hw9.box hc9 hf9 (by omega) (by omega) (by omega)
       exact AllReadyH.nil
      exact AllReadyH.nil
     refine held_step (i := 20) (by kernel_rfl) (fun o ho K' hK => ?_) ?_
     ·simp only [zA, zB, zC, zD] at ho
      subst ho
      go_simp
      refine hK.out _ _ ?_ (fun hHeld => ?_)
      ·exact HSR.out _ (by repeat (first | exact hxn | exact Ext.refl _ | apply Ext.drew | apply Ext.alloc | refine Ext.setCell ?_ (by simp) _))
      clear hK K'
      try simp only [yA, yB, yC]
      refine wpAnyH_ready (rs := [18]) (by kernel_rfl) (by simp) ?_
      refine held_step (i := 18) (by kernel_rfl) (fun o ho K' hK => ?_) ?_
      ·simp only [zA, zB, zC, zD] at ho
       subst ho
       go_simp
       refine hK.out _ _ ?_ (fun hHeld => ?_)
       ·exact HSR.out _ (by repeat (first | exact hxn | exact Ext.refl _ | apply Ext.drew | apply Ext.alloc | refine Ext.setCell ?_ (by simp) _))
       clear hK K'
       try simp only [yA, yB, yC]
       refine wpAnyH_ready (rs := [19]) (by kernel_rfl) (by simp) ?_
       refine held_step (i := 19) (by kernel_rfl) (fun o ho K' hK => ?_) ?_
       ·simp only [zA, zB, zC, zD] at ho
        subst ho
        go_simp
        go_at_call 126
        refine (HNAR.out (wr.drew.alloc (.cells #[.int .i64 0, .int .i64 0] 52)) _ _ (by first | rfl | simp) (Ext.refl _)).mono ?_
        rintro e w9 ⟨hx9, he⟩
        have hxn : Ext wr w9 := (by repeat (first | exact Ext.refl _ | apply Ext.drew | apply Ext.alloc) : Ext wr (((wr.drew.alloc (.cells #[.int .i64 0, .int .i64 0] 52)).alloc (.cells #[.int .i64 q.1, .int .i64 q.2, .int .i64 (n - (R.vary + s.off)), .int .i64 (n + (R.vary + s.off))] 52)))).trans hx9
        rw [if_pos hbad] at he
        subst he
        have hw9 := HWW.out.touch (Touch.trans (Touch.of_ext hx7) (ht.trans (Touch.of_ext hxn))) (by omega) hWcW
        have hc9 := hxn.cell (ht.cell (hx7.cell HB5.out.1) (by simp only []; omega))
        have hf9 := (hxn.frozen (lt_of_cell (ht.cell (hx7.cell HB5.out.1) (by simp only []; omega)))).trans ((ht.frozen (hx7.cell HB5.out.1) (by simp only []; omega)).trans ((hx7.frozen (lt_of_cell HB5.out.1)).trans HB5.out.2))
        exact with_panic (by rfl) (by rfl) (by unfold withB; have h1 := HFIRST.out; rw [h1, ← HBAD.out]; rfl) (hxB.trans (hxr.trans hxn)) hw9.box hc9 hf9 (by omega) (by omega) (by omega)
       exact AllReadyH.nil
      exact AllReadyH.nil
     exact AllReadyH.nil
    ·rw [if_neg hbad] at hnr2
     have HGOOD := Lib.hid hnr2
     clear hnr2
     go_upto_region 10 with fail
     refine wp_region_held_drew (S := (fun W => W.cell? ⟨w.heap.size + 3, 0, none⟩ = some (.int .i64 r) ∧ W.cell? ⟨g5, p * 2, none⟩ = some (.int .i64 q.1) ∧ W.cell? ⟨g5, p * 2 + 1, none⟩ = some (.int .i64 q.2))) (by kernel_rfl) ?_ (fun hHeld => ?_)
     ·exact HSR.out _ (by repeat (first | exact hxn | exact Ext.refl _ | apply Ext.drew | apply Ext.alloc | refine Ext.setCell ?_ (by simp) _))
     refine held_take (i := 0) (d := some 61) (v := ?_) (by kernel_rfl) (by kernel_rfl) (by kernel_rfl) (by kernel_rfl) (fun _ _ _ h => with_put (by decide) (by decide) h) (fun o ho => ?_) hHeld ?_
     rotate_left
     ·simp only [zA, zB, zD] at ho
      subst ho
      refine ⟨by rfl, fun w hSw => ?_⟩
      (try dsimp only at hSw)
      go_simp
      try with_reducible rfl
     try simp only [Act.put, yA, yB, yC]
     refine held_take (i := 1) (d := some 62) (v := ?_) (by kernel_rfl) (by kernel_rfl) (by kernel_rfl) (by kernel_rfl) (fun _ _ _ h => with_put (by decide) (by decide) h) (fun o ho => ?_) hHeld ?_
     rotate_left
     ·simp only [zA, zB, zC, zD] at ho
      subst ho
      refine ⟨by rfl, fun w hSw => ?_⟩
      (try dsimp only at hSw)
      go_simp
      try with_reducible rfl
     try simp only [Act.put, yA, yB, yC]
     refine held_take (i := 2) (d := some 63) (v := ?_) (by kernel_rfl) (by kernel_rfl) (by kernel_rfl) (by kernel_rfl) (fun _ _ _ h => with_put (by decide) (by decide) h) (fun o ho => ?_) hHeld ?_
     rotate_left
     ·simp only [zA, zB, zC, zD] at ho
      subst ho
      refine ⟨by rfl, fun w hSw => ?_⟩
      (try dsimp only at hSw)
      go_simp
      try with_reducible rfl
     try simp only [Act.put, yA, yB, yC]
     refine held_take (i := 3) (d := some 64) (v := ?_) (by kernel_rfl) (by kernel_rfl) (by kernel_rfl) (by kernel_rfl) (fun _ _ _ h => with_put (by decide) (by decide) h) (fun o ho => ?_) hHeld ?_
     rotate_left
     ·simp only [zA, zB, zC, zD] at ho
      subst ho
      refine ⟨by rfl, fun w hSw => ?_⟩
      (try dsimp only at hSw)
      go_simp
      try with_reducible rfl
     try simp only [Act.put, yA, yB, yC]
     refine held_take (i := 4) (d := some 65) (v := ?_) (by kernel_rfl) (by kernel_rfl) (by kernel_rfl) (by kernel_rfl) (fun _ _ _ h => with_put (by decide) (by decide) h) (fun o ho => ?_) hHeld ?_
     rotate_left
     ·simp only [zA, zB, zC, zD] at ho
      subst ho
      refine ⟨by rfl, fun w hSw => ?_⟩
      (try dsimp only at hSw)
      go_simp
      try with_reducible rfl
     try simp only [Act.put, yA, yB, yC]
     refine held_take (i := 5) (d := some 66) (v := ?_) (by kernel_rfl) (by kernel_rfl) (by kernel_rfl) (by kernel_rfl) (fun _ _ _ h => with_put (by decide) (by decide) h) (fun o ho => ?_) hHeld ?_
     rotate_left
     ·simp only [zA, zB, zC, zD] at ho
      subst ho
      refine ⟨by rfl, fun w hSw => ?_⟩
      (try dsimp only at hSw)
      go_simp
      try with_reducible rfl
     try simp only [Act.put, yA, yB, yC]
     refine held_take (i := 6) (d := some 67) (v := ?_) (by kernel_rfl) (by kernel_rfl) (by kernel_rfl) (by kernel_rfl) (fun _ _ _ h => with_put (by decide) (by decide) h) (fun o ho => ?_) hHeld ?_
     rotate_left
     ·simp only [zA, zB, zC, zD] at ho
      subst ho
      refine ⟨by rfl, fun w hSw => ?_⟩
      (try dsimp only at hSw)
      go_simp
      try with_reducible rfl
     try simp only [Act.put, yA, yB, yC]
     refine held_take (i := 7) (d := some 68) (v := ?_) (by kernel_rfl) (by kernel_rfl) (by kernel_rfl) (by kernel_rfl) (fun _ _ _ h => with_put (by decide) (by decide) h) (fun o ho => ?_) hHeld ?_
     rotate_left
     ·simp only [zA, zB, zC, zD] at ho
      subst ho
      refine ⟨by rfl, fun w hSw => ?_⟩
      (try dsimp only at hSw)
      go_simp
      try with_reducible rfl
     try simp only [Act.put, yA, yB, yC]
     refine held_take (i := 8) (d := some 69) (v := ?_) (by kernel_rfl) (by kernel_rfl) (by kernel_rfl) (by kernel_rfl) (fun _ _ _ h => with_put (by decide) (by decide) h) (fun o ho => ?_) hHeld ?_
     rotate_left
     ·simp only [zA, zB, zC, zD] at ho
      subst ho
      refine ⟨by rfl, fun w hSw => ?_⟩
      (try dsimp only at hSw)
      go_simp
      try with_reducible rfl
     try simp only [Act.put, yA, yB, yC]
     refine held_take (i := 9) (d := some 70) (v := ?_) (by kernel_rfl) (by kernel_rfl) (by kernel_rfl) (by kernel_rfl) (fun _ _ _ h => with_put (by decide) (by decide) h) (fun o ho => ?_) hHeld ?_
     rotate_left
     ·simp only [zA, zB, zC, zD] at ho
      subst ho
      refine ⟨by rfl, fun w hSw => ?_⟩
      (try dsimp only at hSw)
      go_simp
      try with_reducible rfl
     try simp only [Act.put, yA, yB, yC]
     refine held_take (i := 10) (d := some 71) (v := ?_) (by kernel_rfl) (by kernel_rfl) (by kernel_rfl) (by kernel_rfl) (fun _ _ _ h => with_put (by decide) (by decide) h) (fun o ho => ?_) hHeld ?_
     rotate_left
     ·simp only [zA, zB, zC, zD] at ho
      subst ho
      refine ⟨by rfl, fun w hSw => ?_⟩
      (try dsimp only at hSw)
      go_simp
      try with_reducible rfl
     try simp only [Act.put, yA, yB, yC]
     refine held_take (i := 11) (d := some 72) (v := ?_) (by kernel_rfl) (by kernel_rfl) (by kernel_rfl) (by kernel_rfl) (fun _ _ _ h => with_put (by decide) (by decide) h) (fun o ho => ?_) hHeld ?_
     rotate_left
     ·simp only [zA, zB, zC, zD] at ho
      subst ho
      refine ⟨by rfl, fun w hSw => ?_⟩
      (try dsimp only at hSw)
      go_simp
      try with_reducible rfl
     try simp only [Act.put, yA, yB, yC]
     refine held_take (i := 12) (d := some 73) (v := ?_) (by kernel_rfl) (by kernel_rfl) (by kernel_rfl) (by kernel_rfl) (fun _ _ _ h => with_put (by decide) (by decide) h) (fun o ho => ?_) hHeld ?_
     rotate_left
     ·simp only [zA, zB, zC, zD] at ho
      subst ho
      refine ⟨by rfl, fun w hSw => ?_⟩
      (try dsimp only at hSw)
      go_simp
      try with_reducible rfl
     try simp only [Act.put, yA, yB, yC]
     refine held_take (i := 13) (d := some 74) (v := ?_) (by kernel_rfl) (by kernel_rfl) (by kernel_rfl) (by kernel_rfl) (fun _ _ _ h => with_put (by decide) (by decide) h) (fun o ho => ?_) hHeld ?_
     rotate_left
     ·simp only [zA, zB, zC, zD] at ho
      subst ho
      refine ⟨by rfl, fun w hSw => ?_⟩
      (try dsimp only at hSw)
      go_simp
      try with_reducible rfl
     try simp only [Act.put, yA, yB, yC]
     refine held_take (i := 14) (d := some 75) (v := ?_) (by kernel_rfl) (by kernel_rfl) (by kernel_rfl) (by kernel_rfl) (fun _ _ _ h => with_put (by decide) (by decide) h) (fun o ho => ?_) hHeld ?_
     rotate_left
     ·simp only [zA, zB, zC, zD] at ho
      subst ho
      refine ⟨by rfl, fun w hSw => ?_⟩
      (try dsimp only at hSw)
      go_simp
      try with_reducible rfl
     try simp only [Act.put, yA, yB, yC]
     refine held_take (i := 15) (d := some 76) (v := ?_) (by kernel_rfl) (by kernel_rfl) (by kernel_rfl) (by kernel_rfl) (fun _ _ _ h => with_put (by decide) (by decide) h) (fun o ho => ?_) hHeld ?_
     rotate_left
     ·simp only [zA, zB, zC, zD] at ho
      subst ho
      refine ⟨by rfl, fun w hSw => ?_⟩
      (try dsimp only at hSw)
      go_simp
      try with_reducible rfl
     try simp only [Act.put, yA, yB, yC]
     refine held_take (i := 16) (d := some 77) (v := ?_) (by kernel_rfl) (by kernel_rfl) (by kernel_rfl) (by kernel_rfl) (fun _ _ _ h => with_put (by decide) (by decide) h) (fun o ho => ?_) hHeld ?_
     rotate_left
     ·simp only [zA, zB, zC, zD] at ho
      subst ho
      refine ⟨by rfl, fun w hSw => ?_⟩
      (try dsimp only at hSw)
      go_simp
      try with_reducible rfl
     try simp only [Act.put, yA, yB, yC]
     refine held_take (i := 17) (d := some 78) (v := ?_) (by kernel_rfl) (by kernel_rfl) (by kernel_rfl) (by kernel_rfl) (fun _ _ _ h => with_put (by decide) (by decide) h) (fun o ho => ?_) hHeld ?_
     rotate_left
     ·simp only [zA, zB, zC, zD] at ho
      subst ho
      refine ⟨by rfl, fun w hSw => ?_⟩
      (try dsimp only at hSw)
      go_simp
      try with_reducible rfl
     try simp only [Act.put, yA, yB, yC]
     refine wpAnyH_ready (rs := [18, 20]) (by kernel_rfl) (by simp) ?_
     refine held_step (i := 18) (by kernel_rfl) (fun o ho K' hK => ?_) ?_
     ·simp only [zA, zB, zC, zD] at ho
      subst ho
      go_simp
      refine hK.out _ _ ?_ (fun hHeld => ?_)
      ·exact HSR.out _ (by repeat (first | exact hxn | exact Ext.refl _ | apply Ext.drew | apply Ext.alloc | refine Ext.setCell ?_ (by simp) _))
      clear hK K'
      try simp only [yA, yB, yC]
      refine wpAnyH_ready (rs := [19, 20]) (by kernel_rfl) (by simp) ?_
      refine held_step (i := 19) (by kernel_rfl) (fun o ho K' hK => ?_) ?_
      ·simp only [zA, zB, zC, zD] at ho
       subst ho
       go_simp
       go_at_call 126
       refine (HNAR.out wr.drew _ _ (by first | rfl | simp) (Ext.refl _)).mono ?_
       rintro e w9 ⟨hx9, he⟩
       have hxn : Ext wr w9 := (by repeat (first | exact Ext.refl _ | apply Ext.drew | apply Ext.alloc) : Ext wr ((wr.drew.alloc (.cells #[.int .i64 q.1, .int .i64 q.2, .int .i64 (n - (R.vary + s.off)), .int .i64 (n + (R.vary + s.off))] 52)))).trans hx9
       rw [if_neg hbad] at he
       subst he
       try unfold spanV
       try go_simp
       refine hK.out _ _ ?_ (fun hHeld => ?_)
       ·exact HSR.out _ (by repeat (first | exact hxn | exact Ext.refl _ | apply Ext.drew | apply Ext.alloc | refine Ext.setCell ?_ (by simp) _))
       clear hK K'
       try simp only [yA, yB, yC]
       refine wpAnyH_ready (rs := [20]) (by kernel_rfl) (by simp) ?_
       refine held_step (i := 20) (by kernel_rfl) (fun o ho K' hK => ?_) ?_
       ·simp only [zA, zB, zC, zD] at ho
        subst ho
        go_simp
        refine hK.out _ _ ?_ (fun hHeld => ?_)
        ·exact HSR.out _ (by repeat (first | exact hxn | exact Ext.refl _ | apply Ext.drew | apply Ext.alloc | refine Ext.setCell ?_ (by simp) _))
        clear hK K'
        try simp only [yA, yB, yC]
        refine wpAnyH_ready (rs := [21]) (by kernel_rfl) (by simp) ?_
        refine held_step (i := 21) (by kernel_rfl) (fun o ho K' hK => ?_) ?_
        ·simp only [zA, zB, zC, zD] at ho
         subst ho
         go_simp
         refine hK.out _ _ ?_ (fun hHeld => ?_)
         ·exact HSR.out _ (by repeat (first | exact hxn | exact Ext.refl _ | apply Ext.drew | apply Ext.alloc | refine Ext.setCell ?_ (by simp) _))
         clear hK K'
         try simp only [yA, yB, yC]
         refine wpAnyH_done (by kernel_rfl) ?_ _
         try simp only [yA, yB, yC]
         obtain ⟨wz, hwz, hxz, hbb⟩ : ∃ wz, wz = w9.alloc (.cells #[.int .i64 (meet q n (R.vary + s.off)).1, .int .i64 (meet q n (R.vary + s.off)).2] 52) ∧ Ext wr wz ∧ Box2 wz (w9.heap.size) (.int .i64 (meet q n (R.vary + s.off)).1) (.int .i64 (meet q n (R.vary + s.off)).2) := ⟨_, ⟨rfl, hxn.alloc _, Box2.new _ _ _ _⟩⟩
         rw [← hwz]
         clear hwz
         have e0 := (hxz.frozen (a := ⟨g5, p * 2, none⟩) hgl).trans HCC.out.2.2.1
         have e1 := (hxz.frozen (a := ⟨g5, p * 2 + 1, none⟩) hgl).trans HCC.out.2.2.2
         obtain ⟨_, c0, c1⟩ := HSR.out wz hxz
         obtain ⟨z0, z1, y0, y1⟩ := hbb
         have hfin : Touch (fun j => W4.heap.size ≤ j) w7 ((wz.setCell ⟨g5, p * 2, none⟩ (.int .i64 (meet q n (R.vary + s.off)).1)).setCell ⟨g5, p * 2 + 1, none⟩ (.int .i64 (meet q n (R.vary + s.off)).2)) ∧ ((wz.setCell ⟨g5, p * 2, none⟩ (.int .i64 (meet q n (R.vary + s.off)).1)).setCell ⟨g5, p * 2 + 1, none⟩ (.int .i64 (meet q n (R.vary + s.off)).2)).ownsRow W4.heap.size 52 2 (.slice (some ⟨g5, 0, none⟩) row0.length c5) row0.length ((rw.set p (meet q n (R.vary + s.off))).flatMap pairC) := ⟨((ht.trans (Touch.of_ext hxz)).trans (Touch.setCell _ hg5)).trans (Touch.setCell _ hg5), row_stored (owns_ext HOWR.out hxz) _⟩
         have HFIN := Lib.hid hfin
         clear hfin
         generalize (meet q n (R.vary + s.off)) = mm at *
         go_wp2
         go_roundw
         case rel => exact ⟨k + 1, rw.set p mm, by omega, by go_num, HFIN.out.1, HFIN.out.2, by unfold Hid; rw [List.length_set]; exact hrl.out, by unfold Hid; rw [← Nat.add_assoc, ← HPK.out]; exact HGOOD.out⟩
         case measure => simp [intOf]; omega
        exact AllReadyH.nil
       exact AllReadyH.nil
      refine held_step (i := 20) (by kernel_rfl) (fun o ho K' hK => ?_) ?_
      ·simp only [zA, zB, zC, zD] at ho
       subst ho
       go_simp
       refine hK.out _ _ ?_ (fun hHeld => ?_)
       ·exact HSR.out _ (by repeat (first | exact hxn | exact Ext.refl _ | apply Ext.drew | apply Ext.alloc | refine Ext.setCell ?_ (by simp) _))
       clear hK K'
       try simp only [yA, yB, yC]
       refine wpAnyH_ready (rs := [19]) (by kernel_rfl) (by simp) ?_
       refine held_step (i := 19) (by kernel_rfl) (fun o ho K' hK => ?_) ?_
       ·simp only [zA, zB, zC, zD] at ho
        subst ho
        go_simp
        go_at_call 126
        refine (HNAR.out wr.drew _ _ (by first | rfl | simp) ((Ext.refl _).alloc _)).mono ?_
        rintro e w9 ⟨hx9, he⟩
        have hxn : Ext wr w9 := (by repeat (first | exact Ext.refl _ | apply Ext.drew | apply Ext.alloc) : Ext wr ((wr.drew.alloc (.cells #[.int .i64 q.1, .int .i64 q.2, .int .i64 (n - (R.vary + s.off)), .int .i64 (n + (R.vary + s.off))] 52)).alloc (.cells #[.int .i64 0, .int .i64 0] 52))).trans hx9
        have hbz : Box2 w9 (wr.heap.size + 1) (.int .i64 0) (.int .i64 0) := (by have h := ((Box2.new (wr.drew.alloc (.cells #[.int .i64 q.1, .int .i64 q.2, .int .i64 (n - (R.vary + s.off)), .int .i64 (n + (R.vary + s.off))] 52)) (.int .i64 0) (.int .i64 0) 52)).ext hx9; simpa using h)
        obtain ⟨zz0, zz1, yy0, yy1⟩ := hbz
        have hbz : Box2 w9 (wr.heap.size + 1) (.int .i64 0) (.int .i64 0) := ⟨zz0, zz1, yy0, yy1⟩
        rw [if_neg hbad] at he
        subst he
        try unfold spanV
        try go_simp
        refine hK.out _ _ ?_ (fun hHeld => ?_)
        ·exact HSR.out _ (by repeat (first | exact hxn | exact Ext.refl _ | apply Ext.drew | apply Ext.alloc | refine Ext.setCell ?_ (by simp) _))
        clear hK K'
        try simp only [yA, yB, yC]
        refine wpAnyH_ready (rs := [21]) (by kernel_rfl) (by simp) ?_
        refine held_step (i := 21) (by kernel_rfl) (fun o ho K' hK => ?_) ?_
        ·simp only [zA, zB, zC, zD] at ho
         subst ho
         go_simp
         refine hK.out _ _ ?_ (fun hHeld => ?_)
         ·exact HSR.out _ (by repeat (first | exact hxn | exact Ext.refl _ | apply Ext.drew | apply Ext.alloc | refine Ext.setCell ?_ (by simp) _))
         clear hK K'
         try simp only [yA, yB, yC]
         refine wpAnyH_done (by kernel_rfl) ?_ _
         try simp only [yA, yB, yC]
         obtain ⟨wz, hwz, hxz, hbb⟩ : ∃ wz, wz = (w9.setCell ⟨wr.heap.size + 1, 0, none⟩ (.int .i64 (meet q n (R.vary + s.off)).1)).setCell ⟨wr.heap.size + 1, 1, none⟩ (.int .i64 (meet q n (R.vary + s.off)).2) ∧ Ext wr wz ∧ Box2 wz (wr.heap.size + 1) (.int .i64 (meet q n (R.vary + s.off)).1) (.int .i64 (meet q n (R.vary + s.off)).2) := ⟨_, ⟨rfl, (hxn.setCell (p := ⟨wr.heap.size + 1, 0, none⟩) (by simp) _).setCell (p := ⟨wr.heap.size + 1, 1, none⟩) (by simp) _, hbz.set _ _⟩⟩
         rw [← hwz]
         clear hwz
         have e0 := (hxz.frozen (a := ⟨g5, p * 2, none⟩) hgl).trans HCC.out.2.2.1
         have e1 := (hxz.frozen (a := ⟨g5, p * 2 + 1, none⟩) hgl).trans HCC.out.2.2.2
         obtain ⟨_, c0, c1⟩ := HSR.out wz hxz
         obtain ⟨z0, z1, y0, y1⟩ := hbb
         have hfin : Touch (fun j => W4.heap.size ≤ j) w7 ((wz.setCell ⟨g5, p * 2, none⟩ (.int .i64 (meet q n (R.vary + s.off)).1)).setCell ⟨g5, p * 2 + 1, none⟩ (.int .i64 (meet q n (R.vary + s.off)).2)) ∧ ((wz.setCell ⟨g5, p * 2, none⟩ (.int .i64 (meet q n (R.vary + s.off)).1)).setCell ⟨g5, p * 2 + 1, none⟩ (.int .i64 (meet q n (R.vary + s.off)).2)).ownsRow W4.heap.size 52 2 (.slice (some ⟨g5, 0, none⟩) row0.length c5) row0.length ((rw.set p (meet q n (R.vary + s.off))).flatMap pairC) := ⟨((ht.trans (Touch.of_ext hxz)).trans (Touch.setCell _ hg5)).trans (Touch.setCell _ hg5), row_stored (owns_ext HOWR.out hxz) _⟩
         have HFIN := Lib.hid hfin
         clear hfin
         generalize (meet q n (R.vary + s.off)) = mm at *
         go_wp2
         go_roundw
         case rel => exact ⟨k + 1, rw.set p mm, by omega, by go_num, HFIN.out.1, HFIN.out.2, by unfold Hid; rw [List.length_set]; exact hrl.out, by unfold Hid; rw [← Nat.add_assoc, ← HPK.out]; exact HGOOD.out⟩
         case measure => simp [intOf]; omega
        exact AllReadyH.nil
       exact AllReadyH.nil
      exact AllReadyH.nil
     refine held_step (i := 20) (by kernel_rfl) (fun o ho K' hK => ?_) ?_
     ·simp only [zA, zB, zC, zD] at ho
      subst ho
      go_simp
      refine hK.out _ _ ?_ (fun hHeld => ?_)
      ·exact HSR.out _ (by repeat (first | exact hxn | exact Ext.refl _ | apply Ext.drew | apply Ext.alloc | refine Ext.setCell ?_ (by simp) _))
      clear hK K'
      try simp only [yA, yB, yC]
      refine wpAnyH_ready (rs := [18]) (by kernel_rfl) (by simp) ?_
      refine held_step (i := 18) (by kernel_rfl) (fun o ho K' hK => ?_) ?_
      ·simp only [zA, zB, zC, zD] at ho
       subst ho
       go_simp
       refine hK.out _ _ ?_ (fun hHeld => ?_)
       ·exact HSR.out _ (by repeat (first | exact hxn | exact Ext.refl _ | apply Ext.drew | apply Ext.alloc | refine Ext.setCell ?_ (by simp) _))
       clear hK K'
       try simp only [yA, yB, yC]
       refine wpAnyH_ready (rs := [19]) (by kernel_rfl) (by simp) ?_
       refine held_step (i := 19) (by kernel_rfl) (fun o ho K' hK => ?_) ?_
       ·simp only [zA, zB, zC, zD] at ho
        subst ho
        go_simp
        go_at_call 126
        refine (HNAR.out (wr.drew.alloc (.cells #[.int .i64 0, .int .i64 0] 52)) _ _ (by first | rfl | simp) (Ext.refl _)).mono ?_
        rintro e w9 ⟨hx9, he⟩
        have hxn : Ext wr w9 := (by repeat (first | exact Ext.refl _ | apply Ext.drew | apply Ext.alloc) : Ext wr (((wr.drew.alloc (.cells #[.int .i64 0, .int .i64 0] 52)).alloc (.cells #[.int .i64 q.1, .int .i64 q.2, .int .i64 (n - (R.vary + s.off)), .int .i64 (n + (R.vary + s.off))] 52)))).trans hx9
        have hbz : Box2 w9 (wr.heap.size) (.int .i64 0) (.int .i64 0) := (by have h := (((Box2.new wr.drew (.int .i64 0) (.int .i64 0) 52).ext ((Ext.refl _).alloc (.cells #[.int .i64 q.1, .int .i64 q.2, .int .i64 (n - (R.vary + s.off)), .int .i64 (n + (R.vary + s.off))] 52)))).ext hx9; simpa using h)
        obtain ⟨zz0, zz1, yy0, yy1⟩ := hbz
        have hbz : Box2 w9 (wr.heap.size) (.int .i64 0) (.int .i64 0) := ⟨zz0, zz1, yy0, yy1⟩
        rw [if_neg hbad] at he
        subst he
        try unfold spanV
        try go_simp
        refine hK.out _ _ ?_ (fun hHeld => ?_)
        ·exact HSR.out _ (by repeat (first | exact hxn | exact Ext.refl _ | apply Ext.drew | apply Ext.alloc | refine Ext.setCell ?_ (by simp) _))
        clear hK K'
        try simp only [yA, yB, yC]
        refine wpAnyH_ready (rs := [21]) (by kernel_rfl) (by simp) ?_
        refine held_step (i := 21) (by kernel_rfl) (fun o ho K' hK => ?_) ?_
        ·simp only [zA, zB, zC, zD] at ho
         subst ho
         go_simp
         refine hK.out _ _ ?_ (fun hHeld => ?_)
         ·exact HSR.out _ (by repeat (first | exact hxn | exact Ext.refl _ | apply Ext.drew | apply Ext.alloc | refine Ext.setCell ?_ (by simp) _))
         clear hK K'
         try simp only [yA, yB, yC]
         refine wpAnyH_done (by kernel_rfl) ?_ _
         try simp only [yA, yB, yC]
         obtain ⟨wz, hwz, hxz, hbb⟩ : ∃ wz, wz = (w9.setCell ⟨wr.heap.size, 0, none⟩ (.int .i64 (meet q n (R.vary + s.off)).1)).setCell ⟨wr.heap.size, 1, none⟩ (.int .i64 (meet q n (R.vary + s.off)).2) ∧ Ext wr wz ∧ Box2 wz (wr.heap.size) (.int .i64 (meet q n (R.vary + s.off)).1) (.int .i64 (meet q n (R.vary + s.off)).2) := ⟨_, ⟨rfl, (hxn.setCell (p := ⟨wr.heap.size, 0, none⟩) (by simp) _).setCell (p := ⟨wr.heap.size, 1, none⟩) (by simp) _, hbz.set _ _⟩⟩
         rw [← hwz]
         clear hwz
         have e0 := (hxz.frozen (a := ⟨g5, p * 2, none⟩) hgl).trans HCC.out.2.2.1
         have e1 := (hxz.frozen (a := ⟨g5, p * 2 + 1, none⟩) hgl).trans HCC.out.2.2.2
         obtain ⟨_, c0, c1⟩ := HSR.out wz hxz
         obtain ⟨z0, z1, y0, y1⟩ := hbb
         have hfin : Touch (fun j => W4.heap.size ≤ j) w7 ((wz.setCell ⟨g5, p * 2, none⟩ (.int .i64 (meet q n (R.vary + s.off)).1)).setCell ⟨g5, p * 2 + 1, none⟩ (.int .i64 (meet q n (R.vary + s.off)).2)) ∧ ((wz.setCell ⟨g5, p * 2, none⟩ (.int .i64 (meet q n (R.vary + s.off)).1)).setCell ⟨g5, p * 2 + 1, none⟩ (.int .i64 (meet q n (R.vary + s.off)).2)).ownsRow W4.heap.size 52 2 (.slice (some ⟨g5, 0, none⟩) row0.length c5) row0.length ((rw.set p (meet q n (R.vary + s.off))).flatMap pairC) := ⟨((ht.trans (Touch.of_ext hxz)).trans (Touch.setCell _ hg5)).trans (Touch.setCell _ hg5), row_stored (owns_ext HOWR.out hxz) _⟩
         have HFIN := Lib.hid hfin
         clear hfin
         generalize (meet q n (R.vary + s.off)) = mm at *
         go_wp2
         go_roundw
         case rel => exact ⟨k + 1, rw.set p mm, by omega, by go_num, HFIN.out.1, HFIN.out.2, by unfold Hid; rw [List.length_set]; exact hrl.out, by unfold Hid; rw [← Nat.add_assoc, ← HPK.out]; exact HGOOD.out⟩
         case measure => simp [intOf]; omega
        exact AllReadyH.nil
       exact AllReadyH.nil
      exact AllReadyH.nil
     exact AllReadyH.nil
   ·have hke : k = s.rings.length := by omega
    have hlt' : decide ((k : Int) < (s.rings.length : Int)) = false := by simpa using hlt
    have hnr2 := hnr.out
    rw [List.drop_of_length_le (by omega)] at hnr2
    have hw := HWW.out.touch (Touch.trans (Touch.of_ext hx7) ht) (by omega) hWcW
    have hgw1 : wc.heap.size ≤ gw := owns_block hw.own gw rfl
    have hgw2 : gw < W4.heap.size := hw.low gw rfl
    have hcw := (hw.own.cellAt r (by omega)).trans HVR.out
    have hfw := hw.own.frozenAt r
    obtain ⟨k0, k1, k2, k3⟩ := hw.box
    have hc5 := ht.cell (hx7.cell HB5.out.1) (by simp only []; omega)
    have hf5 := (ht.frozen (hx7.cell HB5.out.1) (by simp only []; omega)).trans ((hx7.frozen (lt_of_cell HB5.out.1)).trans HB5.out.2)
    have hwith : withB b x s ((r : Int), (y : Int)) = some ⟨x.org ++ [((r : Int), (y : Int))], x.wea.set r rw⟩ := by
     unfold withB; have h1 := HFIRST.out; rw [h1, ← hnr2]; rfl
    have HWITH := Lib.hid hwith
    have HW := Lib.hid hw
    have HOWR := Lib.hid hown
    have hn1 : ¬ gw = w.heap.size + 4 := by omega
    have hn2 : ¬ w.heap.size + 4 = gw := by omega
    have hn3 : ¬ gw = w.heap.size + 5 := by omega
    have hn4 : ¬ w.heap.size + 5 = gw := by omega
    clear hke hnr2 hw hwith hown hnr
    go_wp2
    obtain ⟨uv, huv⟩ : ∃ uv, uv = Value.slice (some ⟨g5, 0, none⟩) row0.length c5 := ⟨_, rfl⟩
    obtain ⟨wy, hwy⟩ : ∃ wy, wy = ((wr.setCell ⟨gw, r, none⟩ (.slice (some ⟨g5, 0, none⟩) row0.length c5)).setCell ⟨w.heap.size + 4, 0, none⟩ (.slice a2 (x.org.length + 1) c2)).setCell ⟨w.heap.size + 4, 1, none⟩ (.slice (some ⟨gw, 0, none⟩) x.wea.length q3) := ⟨_, rfl⟩
    obtain ⟨wf, hwf⟩ : ∃ wf, wf = wy.setCell ⟨w.heap.size + 5, 0, none⟩ (.bool true) := ⟨_, rfl⟩
    have hT1 : Touch (fun i => i = gw) wr (wr.setCell ⟨gw, r, none⟩ (.slice (some ⟨g5, 0, none⟩) row0.length c5)) := Touch.setCell _ rfl
    have hT2 : Touch (fun i => i = w.heap.size + 4) (wr.setCell ⟨gw, r, none⟩ (.slice (some ⟨g5, 0, none⟩) row0.length c5)) wy := by rw [hwy]; exact ((Touch.refl _ _).trans (Touch.setCell _ (by rfl))).trans (Touch.setCell _ (by rfl))
    have hT3 : Touch (fun i => i = w.heap.size + 5) wy wf := by rw [hwf]; exact Touch.setCell _ rfl
    have hT23 : Touch (fun i => i = w.heap.size + 4 ∨ i = w.heap.size + 5) (wr.setCell ⟨gw, r, none⟩ (.slice (some ⟨g5, 0, none⟩) row0.length c5)) wf := (hT2.mono (fun i h => .inl h)).trans (hT3.mono (fun i h => .inr h))
    have hT : Touch (fun i => i = gw ∨ i = w.heap.size + 4 ∨ i = w.heap.size + 5) wr wf := (hT1.mono (fun i h => .inl h)).trans (hT23.mono (fun i h => .inr h))
    have hxf : Ext w wf := Touch.ext (hxB.trans hxr) hT (fun i hi => by omega)
    have hbf : Box2 wf (w.heap.size + 4) (.slice a2 (x.org.length + 1) c2) (.slice (some ⟨gw, 0, none⟩) x.wea.length q3) := by
     have h1 := ((HW.out.box.touch hT1 (by omega)).set (.slice a2 (x.org.length + 1) c2) (.slice (some ⟨gw, 0, none⟩) x.wea.length q3))
     rw [← hwy] at h1
     exact h1.touch hT3 (by omega)
    have hcf : wf.cell? ⟨w.heap.size + 5, 0, none⟩ = some (.bool true) := by
     rw [hwf]
     refine World.cell?_setCell_same' _ ⟨w.heap.size + 5, 0, none⟩ (.bool true) ?_
     rw [hT2.cell (hT1.cell hc5 (by simp only []; omega)) (by simp only []; omega)]; rfl
    have how := (HW.out.own.stored r (.slice (some ⟨g5, 0, none⟩) row0.length c5)).1
    have how2 := owns_touch how hT23 (fun g hg => by (have hg' : gw = g := (by simpa [Value.ownBlock] using hg)); omega)
    have hvl := HV4.out.1
    have hz : StateOff M wf ⟨x.org ++ [((r : Int), (y : Int))], x.wea.set r rw⟩ (.agg #[.slice a2 (x.org.length + 1) c2, .slice (some ⟨gw, 0, none⟩) x.wea.length q3]) := by
     refine ⟨_, _, rfl, ?_, vs.set r (.slice (some ⟨g5, 0, none⟩) row0.length c5), by simp [hvl], ?_, ?_, ?_⟩
     ·have h1 := HW.out.org
      have h2 : PairsOff (fun i => i = gw ∨ i = w.heap.size + 4 ∨ i = w.heap.size + 5) wr (.slice a2 (x.org.length + 1) c2) (x.org ++ [((r : Int), (y : Int))]) := h1.less (fun i hi => by have := HZ0.out; rcases hi with hi | hi | hi <;> subst hi <;> first | (left; omega) | (right; omega))
      exact ⟨(h2.touch hT).1, fun a n c ha hm => h1.2 a n c ha (.inl (by have := hM _ hm; have := HZ0.out; omega))⟩
     ·have := RowAt.of_owns how2
      simpa using this
     ·intro a n c ha hm
      cases ha
      have h1 : gw < w.heap.size := hM _ hm
      omega
     ·intro i u xs hu hxs
      by_cases hir : r = i
      ·subst hir
       rw [List.getElem?_set_self (by omega)] at hu hxs
       cases hu; cases hxs
       have h1 := owns_touch HOWR.out hT (fun g hg => by (have hg' : g5 = g := (by simpa [Value.ownBlock] using hg)); omega)
       rw [← hrl.out] at h1 ⊢
       exact PairsOff.of_owns h1 (fun i hi => by have := hM _ hi; omega)
      ·rw [List.getElem?_set_ne hir] at hu hxs
       exact (HV4.out.2.1 i u xs hu hxs).ext hxf
    rw [← hwy, ← hwf]
    exact with_done (by rfl) (by rfl) HWITH.out hxf hbf hcf hz
end Go.Proofs.YtiodjapdiflphaaGreatDoor
