/- The first of some things than which none is better: tours. -/
import Derived.Test.YtbeophjdiddomaaGreatDoorOrdersb
import Derived.RangeFuncLeaves
import Derived.Sort.QuietIn
import Derived.Sort.BigQuietIn
import Derived.Defers
import Derived.Recover
namespace Go.Proofs.YtbeophjdiddomaaGreatDoor
open Go.RowKit

/-- The first of a list than which none is better. -/
def stepBest {α : Type} (lt : α → α → Bool) (acc : Option α) (x : α) : Option α := match acc with | none => some x | some y => if lt x y then some x else some y
def firstBest {α : Type} (lt : α → α → Bool) (xs : List α) : Option α := xs.foldl (stepBest lt) none
theorem firstBest_succ {α : Type} (lt : α → α → Bool) {xs : List α} {k : Nat} {x : α} (h : xs[k]? = some x) : firstBest lt (xs.take (k + 1)) = stepBest lt (firstBest lt (xs.take k)) x := by
  unfold firstBest; rw [List.take_add_one, h]; simp
/-- What the variables of 'best' hold. -/
def bestCells {α : Type} (En : World → α → Value → Prop) (o : Nat) (W : World) : Option α → Prop
  | none => W.cell? ⟨o + 1, 0, none⟩ = some (.bool true) ∧ W.cell? ⟨o, 0, none⟩ = some (.slice none 0 0) ∧ W.cell? ⟨o, 1, none⟩ = some (.int .i64 0)
  | some x => W.cell? ⟨o + 1, 0, none⟩ = some (.bool false) ∧ ∃ nv dv, W.cell? ⟨o, 0, none⟩ = some nv ∧ W.cell? ⟨o, 1, none⟩ = some dv ∧ En W x (.agg #[nv, dv])
structure BestAt {α : Type} (lt : α → α → Bool) (En : World → α → Value → Prop) (xs : List α) (bv : Value) (w : World) (k : Nat) (W : World) : Prop where
  ext : Ext w W
  b : W.cell? ⟨w.heap.size, 0, none⟩ = some bv
  r0 : W.cell? ⟨w.heap.size + 1, 0, none⟩ = some (.slice none 0 0)
  r1 : W.cell? ⟨w.heap.size + 1, 1, none⟩ = some (.int .i64 0)
  rf : W.frozen? ⟨w.heap.size + 1, 0, none⟩ = false ∧ W.frozen? ⟨w.heap.size + 1, 1, none⟩ = false
  of : W.frozen? ⟨w.heap.size + 2, 0, none⟩ = false ∧ W.frozen? ⟨w.heap.size + 2, 1, none⟩ = false ∧ W.frozen? ⟨w.heap.size + 3, 0, none⟩ = false
  o : bestCells En (w.heap.size + 2) W (firstBest lt (xs.take k))

def BestPost {α : Type} (lt : α → α → Bool) (En : World → α → Value → Prop) (xs : List α) (w : World) (e : Ending) (w' : World) : Prop :=
  ∃ nv dv, e = .returned (.agg #[nv, dv]) ∧ Ext w w' ∧ match firstBest lt xs with | none => nv = .slice none 0 0 ∧ dv = .int .i64 0 | some x => En w' x (.agg #[nv, dv])

theorem bestCells.quiet {α : Type} {En : World → α → Value → Prop} {o n : Nat} {A B : World} {r : Option α} (h : bestCells En o A r) (k : Quiet n A B) (hEnQ : ∀ n A B x v, En A x v → Quiet n A B → En B x v) : bestCells En o B r := by
  cases r with
  | none => exact ⟨k.cell h.1, k.cell h.2.1, k.cell h.2.2⟩
  | some x =>
    obtain ⟨h1, nv, dv, h2, h3, h4⟩ := h
    exact ⟨k.cell h1, nv, dv, k.cell h2, k.cell h3, hEnQ _ _ _ _ _ h4 k⟩
theorem BestAt.quiet {α : Type} {lt : α → α → Bool} {En : World → α → Value → Prop} {xs : List α} {bv : Value} {w : World} {k n : Nat} {A B : World} (h : BestAt lt En xs bv w k A) (q : Quiet n A B) (hn : w.heap.size ≤ n) (ho : ∃ v0 v1 v2, A.cell? ⟨w.heap.size + 2, 0, none⟩ = some v0 ∧ A.cell? ⟨w.heap.size + 2, 1, none⟩ = some v1 ∧ A.cell? ⟨w.heap.size + 3, 0, none⟩ = some v2)
    (hEnQ : ∀ n A B x v, En A x v → Quiet n A B → En B x v) : BestAt lt En xs bv w k B := by
  obtain ⟨v0, v1, v2, o0, o1, o2⟩ := ho
  exact ⟨h.ext.quiet hn q, q.cell h.b, q.cell h.r0, q.cell h.r1, ⟨(q.frozen h.r0).trans h.rf.1, (q.frozen h.r1).trans h.rf.2⟩, ⟨(q.frozen o0).trans h.of.1, (q.frozen o1).trans h.of.2.1, (q.frozen o2).trans h.of.2.2⟩, h.o.quiet q hEnQ⟩
theorem bestCells.cells {α : Type} {En : World → α → Value → Prop} {o : Nat} {A : World} {r : Option α} (h : bestCells En o A r) : ∃ v0 v1 v2, A.cell? ⟨o, 0, none⟩ = some v0 ∧ A.cell? ⟨o, 1, none⟩ = some v1 ∧ A.cell? ⟨o + 1, 0, none⟩ = some v2 := by
  cases r with
  | none => exact ⟨_, _, _, h.2.1, h.2.2, h.1⟩
  | some x => obtain ⟨h1, nv, dv, h2, h3, h4⟩ := h; exact ⟨_, _, _, h2, h3, h1⟩

theorem best_store {α : Type} {lt : α → α → Bool} {En : World → α → Value → Prop} {xs : List α} {bv : Value} {w : World} {k : Nat} {W : World} {x : α} {pa : Option Addr} {n c : Nat} {d : Int} (h : BestAt lt En xs bv w k W) (hen : En W x (.agg #[.slice pa n c, .int .i64 d])) (hk : firstBest lt (xs.take (k + 1)) = some x)
    (hEnT : ∀ A B x v, En A x v → Touch (fun i => w.heap.size + 1 ≤ i ∧ i ≤ w.heap.size + 3) A B → En B x v) :
    Touch (fun i => i = w.heap.size + 2 ∨ i = w.heap.size + 3) W (((W.setCell ⟨w.heap.size + 1 + 1, 0, none⟩ (.slice pa n c)).setCell ⟨w.heap.size + 1 + 1, 1, none⟩ (.int .i64 d)).setCell ⟨w.heap.size + 1 + 1 + 1, 0, none⟩ (.bool false)) ∧
    BestAt lt En xs bv w (k + 1) (((W.setCell ⟨w.heap.size + 1 + 1, 0, none⟩ (.slice pa n c)).setCell ⟨w.heap.size + 1 + 1, 1, none⟩ (.int .i64 d)).setCell ⟨w.heap.size + 1 + 1 + 1, 0, none⟩ (.bool false)) := by
  have ht : Touch (fun i => i = w.heap.size + 2 ∨ i = w.heap.size + 3) W (((W.setCell ⟨w.heap.size + 1 + 1, 0, none⟩ (.slice pa n c)).setCell ⟨w.heap.size + 1 + 1, 1, none⟩ (.int .i64 d)).setCell ⟨w.heap.size + 1 + 1 + 1, 0, none⟩ (.bool false)) :=
    (((Touch.refl _ W).trans (Touch.setCell _ (.inl rfl))).trans (Touch.setCell _ (.inl rfl))).trans (Touch.setCell _ (.inr rfl))
  obtain ⟨v0, v1, v2, o0, o1, o2⟩ := h.o.cells
  have f0 := h.of.1
  have f1 := h.of.2.1
  have f2 := h.of.2.2
  refine ⟨ht, ⟨ht.ext h.ext (fun i hi => by omega), ht.cell h.b (by simp), ht.cell h.r0 (by simp), ht.cell h.r1 (by simp), ⟨by simpa [World.frozen?_setCell] using h.rf.1, by simpa [World.frozen?_setCell] using h.rf.2⟩, ⟨by simpa [World.frozen?_setCell] using f0, by simpa [World.frozen?_setCell] using f1, by simpa [World.frozen?_setCell] using f2⟩, ?_⟩⟩
  rw [hk]
  exact ⟨by go_simp, _, _, by go_simp, by go_simp, hEnT _ _ _ _ hen (ht.mono (fun i hi => by omega))⟩

set_option maxRecDepth 100000 in
set_option maxHeartbeats 4000000 in
theorem best_tour {α : Type} (lt : α → α → Bool) (En : World → α → Value → Prop) (xs : List α) (w : World) (gf : Nat) (lb : Array Value) (bf : Nat) (cap : Array Value)
    (eg : ∀ args w, (callFunc gf args).run Tryz.prog w = .ok (.enter gf args) w) (eb : ∀ args w, (callFunc bf args).run Tryz.prog w = .ok (.enter bf args) w)
    (hform : ∀ A x v, En A x v → ∃ pa n c d, v = .agg #[.slice pa n c, .int .i64 d]) (hEnT : ∀ A B x v, En A x v → Touch (fun i => w.heap.size + 1 ≤ i ∧ i ≤ w.heap.size + 3) A B → En B x v) (hEnQ : ∀ n A B x v, En A x v → Quiet n A B → En B x v)
    (hiter : ∀ W, Ext w W → W.heap.size = w.heap.size + 6 → Iter Tryz.prog gf lb En xs (fun i => (i = w.heap.size + 2 ∨ i = w.heap.size + 3) ∨ i = w.heap.size + 5) W)
    (hlt : ∀ A x y vx vy, Ext w A → En A x vx → En A y vy → Calls Tryz.prog bf (#[vx, vy] ++ cap) A fun e A' => e = .returned (.bool (lt x y)) ∧ Ext A A') :
    Calls Tryz.prog 98 #[.func (.func gf) #[] lb, .func (.func bf) #[] cap] w (BestPost lt En xs w) := by
  have hmix : Tryz.prog.follows .mixedOrders = true := by kernel_rfl
  have HI := Lib.hid hiter
  have HL := Lib.hid hlt
  clear hiter hlt
  refine (callsIn_wide (n := 0)).1 ?_
  refine callsIn_of_wp_marks Tryz.func98 rfl trivial ?_ rfl
  simp only [Tryz.ntmps98, List.size_toArray, List.length_cons, List.length_nil, Nat.reduceAdd, Nat.reduceSub, Array.replicate_succ, Array.replicate_zero, List.push_toArray, List.append_toArray, List.nil_append, List.cons_append]
  gi_wp2
  have h0 : BestAt lt En xs (.func (.func bf) #[] cap) w 0 ((((w.alloc (Obj.cells #[Value.func (Fn.func bf) #[] cap] 157)).alloc (Obj.cells #[Value.slice none 0 0, Value.int IntKind.i64 0] 107)).alloc (Obj.cells #[Value.slice none 0 0, Value.int IntKind.i64 0] 107)).alloc (Obj.cells #[Value.bool true] 4)) :=
    ⟨(((((Ext.refl w).alloc _).alloc _).alloc _).alloc _), by go_simp, by go_simp, by go_simp, ⟨by go_simp, by go_simp⟩, ⟨by go_simp, by go_simp, by go_simp⟩, by go_simp, by go_simp, by go_simp⟩
  generalize hW0 : ((((w.alloc (Obj.cells #[Value.func (Fn.func bf) #[] cap] 157)).alloc (Obj.cells #[Value.slice none 0 0, Value.int IntKind.i64 0] 107)).alloc (Obj.cells #[Value.slice none 0 0, Value.int IntKind.i64 0] 107)).alloc (Obj.cells #[Value.bool true] 4)) = W0 at h0 ⊢
  have hz : W0.heap.size = w.heap.size + 4 := by rw [← hW0]; simp
  refine wpIn_range (gf := gf) (lb := lb) (by rfl) eg En xs (fun i => i = w.heap.size + 2 ∨ i = w.heap.size + 3) ?hM ?hiter (BestAt lt En xs (.func (.func bf) #[] cap) w) (fun _ _ => False) ?hI (fun _ _ _ h => h.elim) h0
    (fun k x v a' W => ∃ b pa n c d, v = .agg #[.slice pa n c, .int .i64 d] ∧ En W x v ∧ W.cell? ⟨b, 0, none⟩ = some (.slice pa n c) ∧ W.cell? ⟨b, 1, none⟩ = some (.int .i64 d) ∧
      a' = { tmps := #[Value.func (Fn.func gf) #[] lb, Value.func (Fn.func bf) #[] cap, undef, Value.pointer (some ⟨w.heap.size, 0, none⟩), Value.pointer (some ⟨w.heap.size + 1, 0, none⟩), Value.pointer (some ⟨w.heap.size + 1 + 1, 0, none⟩), Value.pointer (some ⟨w.heap.size + 1 + 1 + 1, 0, none⟩), Value.pointer (some ⟨b, 0, none⟩), Value.func (Fn.func gf) #[] lb, v, undef, undef, undef, undef, undef, undef, undef, undef, undef], defers := [] }) ?hAx ?hassign ?hbody ?hdone ?hstop
  case hM => intro k hk; omega
  case hiter =>
    intro W1 h1 h2
    rw [hz] at h2 ⊢
    exact HI.out W1 (h0.ext.trans h1) (by omega)
  case hI =>
    intro k A B h q
    exact h.quiet q (by omega) h.o.cells hEnQ
  case hAx =>
    rintro k x v a' A B ⟨b, pa, n, c, d, h1, h2, h3, h4, h5⟩ q
    exact ⟨b, pa, n, c, d, h1, hEnQ _ _ _ _ _ h2 q, q.cell h3, q.cell h4, h5⟩
  case hstop => intro D c W _ h; exact h.elim
  case hassign =>
    intro l k x v W K hi hx hen hK
    obtain ⟨pa, n, c, d, rfl⟩ := hform _ _ _ hen
    have HK := Lib.hid hK
    clear hK
    have hsz := hi.ext.size
    gi_wp2_with ((rw [Oper.semAt_eq _ _ _ (fun c h => by cases h)]; go_simp; try go_bits))
    exact HK.out _ _ ((Ext.refl W).alloc _) ⟨W.heap.size, pa, n, c, d, rfl, hEnQ 0 _ _ _ _ hen (Quiet.of_ext ((Ext.refl W).alloc _)), by go_simp, by go_simp, rfl⟩
  case hbody =>
    rintro l k x v a' W hl ⟨r, hr⟩ hi hx ⟨b, pa, n, c, d, rfl, hen, hb0, hb1, rfl⟩ hsz
    have e0 := hi.o
    have HX := Lib.hid hx
    have HN := Lib.hid hen
    clear hx hen
    have e1 := hi.b
    have e2 := hi.of.1
    have e3 := hi.of.2.1
    have e4 := hi.of.2.2
    cases hb : firstBest lt (xs.take k) with
    | none =>
      rw [hb] at e0
      obtain ⟨o1, o2, o3⟩ := e0
      gi_wp2_with ((rw [Oper.semAt_eq _ _ _ (fun c h => by cases h)]; go_simp; try go_bits))
      exact best_store hi HN.out (by rw [firstBest_succ lt HX.out, hb]; rfl) hEnT
    | some y =>
      rw [hb] at e0
      obtain ⟨o1, nv', dv', o2, o3, heny⟩ := e0
      obtain ⟨pa', n', c', d', hv'⟩ := hform _ _ _ heny
      cases hv'
      have HY := Lib.hid heny
      clear heny
      have HB := Lib.hid hb
      clear hb
      cases hl : lt x y with
      | true =>
        have hk : firstBest lt (xs.take (k + 1)) = some x := by rw [firstBest_succ lt HX.out, HB.out]; simp [stepBest, hl]
        have HK := Lib.hid hk
        clear hk
        gi_wp2_with (first | (refine (callsIn_wide.2 (HL.out W x y _ _ hi.ext HN.out HY.out)).mono ?_; rintro e w1 ⟨rfl, hx1⟩; have q0 := hx1.cell hb0; have q1 := hx1.cell hb1; have q2 := hx1.cell o1; have q3 := hx1.cell o2; have q4 := hx1.cell o3; have g2 := (hx1.frozen (lt_of_cell o2)).trans e2; have g3 := (hx1.frozen (lt_of_cell o3)).trans e3; have g4 := (hx1.frozen (lt_of_cell o1)).trans e4) | (rw [Oper.semAt_eq _ _ _ (fun c h => by cases h)]; go_simp; try go_bits))
        have hbs := best_store (hi.quiet (n := w.heap.size) (Quiet.of_ext hx1) (Nat.le_refl _) ⟨_, _, _, o2, o3, o1⟩ hEnQ) (hEnQ 0 _ _ _ _ HN.out (Quiet.of_ext hx1)) HK.out hEnT
        exact ⟨(Touch.of_ext hx1).trans hbs.1, hbs.2⟩
      | false =>
        have hk : firstBest lt (xs.take (k + 1)) = some y := by rw [firstBest_succ lt HX.out, HB.out]; simp [stepBest, hl]
        have HK := Lib.hid hk
        clear hk
        gi_wp2_with (first | (refine (callsIn_wide.2 (HL.out W x y _ _ hi.ext HN.out HY.out)).mono ?_; rintro e w1 ⟨rfl, hx1⟩; have q0 := hx1.cell hb0; have q1 := hx1.cell hb1; have q2 := hx1.cell o1; have q3 := hx1.cell o2; have q4 := hx1.cell o3; have g2 := (hx1.frozen (lt_of_cell o2)).trans e2; have g3 := (hx1.frozen (lt_of_cell o3)).trans e3; have g4 := (hx1.frozen (lt_of_cell o1)).trans e4) | (rw [Oper.semAt_eq _ _ _ (fun c h => by cases h)]; go_simp; try go_bits))
        have hq := hi.quiet (n := w.heap.size) (Quiet.of_ext hx1) (Nat.le_refl _) ⟨_, _, _, o2, o3, o1⟩ hEnQ
        exact ⟨Touch.of_ext hx1, ⟨hq.ext, hq.b, hq.r0, hq.r1, hq.rf, hq.of, by rw [HK.out]; have := hq.o; rw [HB.out] at this; exact this⟩⟩
  case hdone =>
    intro D W hD hi hd
    have e0 := hi.o
    rw [List.take_length] at e0
    have e1 := hi.r0
    have e2 := hi.r1
    have e3 := hi.rf.1
    have e4 := hi.rf.2
    cases hb : firstBest lt xs with
    | none =>
      rw [hb] at e0
      obtain ⟨o1, o2, o3⟩ := e0
      gi_wp2
      have ht : Touch (fun i => i = w.heap.size + 1) W ((W.setCell ⟨w.heap.size + 1, 0, none⟩ (.slice none 0 0)).setCell ⟨w.heap.size + 1, 1, none⟩ (.int .i64 0)) := ((Touch.refl _ W).trans (Touch.setCell _ (by rfl))).trans (Touch.setCell _ (by rfl))
      have hd3 := ht.keep _ _ hd (by omega)
      have c0 : ((W.setCell ⟨w.heap.size + 1, 0, none⟩ (.slice none 0 0)).setCell ⟨w.heap.size + 1, 1, none⟩ (.int .i64 0)).cell? ⟨w.heap.size + 1, 0, none⟩ = some (.slice none 0 0) := by go_simp
      have c1 : ((W.setCell ⟨w.heap.size + 1, 0, none⟩ (.slice none 0 0)).setCell ⟨w.heap.size + 1, 1, none⟩ (.int .i64 0)).cell? ⟨w.heap.size + 1, 1, none⟩ = some (.int .i64 0) := by go_simp
      generalize ((W.setCell ⟨w.heap.size + 1, 0, none⟩ (.slice none 0 0)).setCell ⟨w.heap.size + 1, 1, none⟩ (.int .i64 0)) = W3 at ht hd3 c0 c1 ⊢
      have hq : Quiet w.heap.size W3 (W3.putObj D (.deferred none)) := Quiet.putObj _ hd3 (by omega) rfl
      have d0 := hq.cell c0
      have d1 := hq.cell c1
      refine ⟨by simp, .inl ⟨_, _, rfl, run_takeDeferred hd3, ?_⟩⟩
      refine ⟨.agg #[(.slice none 0 0), (.int .i64 0)], by simp [results, Tryz.f98, go_sem, d0, d1], _, _, rfl, (ht.ext hi.ext (fun i hi => by omega)).quiet (Nat.le_refl _) hq, ?_⟩
      rw [hb]
      exact ⟨rfl, rfl⟩
    | some x =>
      rw [hb] at e0
      obtain ⟨o1, nv', dv', o2, o3, hen⟩ := e0
      obtain ⟨pa, n, c, d, hv⟩ := hform _ _ _ hen
      cases hv
      have HE := Lib.hid hen
      clear hen
      gi_wp2
      have ht : Touch (fun i => i = w.heap.size + 1) W ((W.setCell ⟨w.heap.size + 1, 0, none⟩ (.slice pa n c)).setCell ⟨w.heap.size + 1, 1, none⟩ (.int .i64 d)) := ((Touch.refl _ W).trans (Touch.setCell _ (by rfl))).trans (Touch.setCell _ (by rfl))
      have hd3 := ht.keep _ _ hd (by omega)
      have c0 : ((W.setCell ⟨w.heap.size + 1, 0, none⟩ (.slice pa n c)).setCell ⟨w.heap.size + 1, 1, none⟩ (.int .i64 d)).cell? ⟨w.heap.size + 1, 0, none⟩ = some (.slice pa n c) := by go_simp
      have c1 : ((W.setCell ⟨w.heap.size + 1, 0, none⟩ (.slice pa n c)).setCell ⟨w.heap.size + 1, 1, none⟩ (.int .i64 d)).cell? ⟨w.heap.size + 1, 1, none⟩ = some (.int .i64 d) := by go_simp
      generalize ((W.setCell ⟨w.heap.size + 1, 0, none⟩ (.slice pa n c)).setCell ⟨w.heap.size + 1, 1, none⟩ (.int .i64 d)) = W3 at ht hd3 c0 c1 ⊢
      have hq : Quiet w.heap.size W3 (W3.putObj D (.deferred none)) := Quiet.putObj _ hd3 (by omega) rfl
      have d0 := hq.cell c0
      have d1 := hq.cell c1
      refine ⟨by simp, .inl ⟨_, _, rfl, run_takeDeferred hd3, ?_⟩⟩
      refine ⟨.agg #[(.slice pa n c), (.int .i64 d)], by simp [results, Tryz.f98, go_sem, d0, d1], _, _, rfl, (ht.ext hi.ext (fun i hi => by omega)).quiet (Nat.le_refl _) hq, ?_⟩
      rw [hb]
      exact hEnQ _ _ _ _ _ (hEnT _ _ _ _ HE.out (ht.mono (fun i hi => by omega))) hq
end Go.Proofs.YtbeophjdiddomaaGreatDoor

/- The best tour of some houses. -/
namespace Go.Proofs.YtbeophjdiddomaaGreatDoor
open Go.RowKit

theorem Iter.less {α : Type} {P : Program} {gf : Nat} {lb : Array Value} {En : World → α → Value → Prop} {xs : List α} {M N : Nat → Prop} {W : World} (h : Iter P gf lb En xs M W) (hm : ∀ i, N i → M i) : Iter P gf lb En xs N W := by
  intro l J Jx hJ hJx hY h0
  refine h l J Jx hJ hJx (fun k x v A hj hx hen hs => ?_) h0
  obtain ⟨fn, tmps, assign, body, hy, hR⟩ := hY k x v A hj hx hen hs
  exact ⟨fn, tmps, assign, body, hy, hR.mono fun e w' ⟨b, he, ht, h1, h2⟩ => ⟨b, he, ht.mono hm, h1, h2⟩⟩

theorem IntsOff.quiet {M : Nat → Prop} {n : Nat} {A B : World} {v : Value} {xs : List Int} (h : IntsOff M A v xs) (k : Quiet n A B) : IntsOff M B v xs := ⟨k.row h.1, h.2⟩
theorem tourEn.form {c : Roads} {M : Nat → Prop} {A : World} {x : List Int} {v : Value} (h : tourEn c M A x v) : ∃ pa n k d, v = .agg #[.slice pa n k, .int .i64 d] := by
  obtain ⟨nv, rfl, hn, _⟩ := h
  obtain ⟨a, k, rfl, _⟩ := hn.open
  exact ⟨_, _, _, _, rfl⟩
theorem tourEn.touch {c : Roads} {M N : Nat → Prop} {A B : World} {x : List Int} {v : Value} (h : tourEn c M A x v) (k : Touch N A B) (hm : ∀ i, N i → M i) : tourEn c M B x v := by
  obtain ⟨nv, rfl, hn⟩ := h; exact ⟨nv, rfl, hn.touch (k.mono hm)⟩
theorem tourEn.quiet {c : Roads} {M : Nat → Prop} {n : Nat} {A B : World} {x : List Int} {v : Value} (h : tourEn c M A x v) (k : Quiet n A B) : tourEn c M B x v := by
  obtain ⟨nv, rfl, hn⟩ := h; exact ⟨nv, rfl, hn.quiet k⟩

def shorterB (c : Roads) (x y : List Int) : Bool := decide (lengthOf c x < lengthOf c y)
theorem shortest1_any (na nb : Value) (m n : Int) (w : World) (sa : ∃ a k c, na = .slice a k c) (sb : ∃ a k c, nb = .slice a k c) :
    Calls Tryz.prog 100 #[.agg #[na, .int .i64 m], .agg #[nb, .int .i64 n]] w fun e w' => e = .returned (.bool (decide (m < n))) ∧ Ext w w' := by
  obtain ⟨a1, k1, c1, rfl⟩ := sa
  obtain ⟨a2, k2, c2, rfl⟩ := sb
  go_enter Tryz.func100, Tryz.ntmps100
  go_wp2
  go_ret
  exact ⟨rfl, ((Ext.refl w).alloc _).alloc _⟩
theorem enters_orders1 : ∀ args w, (callFunc 120 args).run Tryz.prog w = .ok (.enter 120 args) w := enters_of Tryz.func120 (by kernel_rfl) rfl
theorem enters_shortest1 : ∀ args w, (callFunc 100 args).run Tryz.prog w = .ok (.enter 100 args) w := enters_of Tryz.func100 (by kernel_rfl) rfl

/-- The tour that is best. -/
def bestTour (c : Roads) (hs : List Int) : Option (List Int) := firstBest (shorterB c) (ordersOf hs)
def TourPost (c : Roads) (hs : List Int) (w : World) (e : Ending) (w' : World) : Prop :=
  ∃ pa n k d, e = .returned (.agg #[.slice pa n k, .int .i64 d]) ∧ Ext w w' ∧ match bestTour c hs with | none => pa = none ∧ n = 0 ∧ k = 0 ∧ d = 0 | some x => d = lengthOf c x ∧ IntsAt w' (.slice pa n k) x ∧ ∀ a, pa = some a → w.heap.size ≤ a.block

def OrdersPost (lv fv hv : Value) (c : Roads) (w : World) (e : Ending) (w' : World) : Prop :=
  ∃ hb cb, e = .returned (.func (.func 120) #[] #[.pointer (some ⟨hb, 0, none⟩), .pointer (some ⟨cb, 0, none⟩)]) ∧ Ext w w' ∧ w'.cell? ⟨hb, 0, none⟩ = some hv ∧ w'.cell? ⟨cb, 0, none⟩ = some lv ∧ w'.cell? ⟨cb, 1, none⟩ = some (.int .i64 c.bears) ∧ w'.cell? ⟨cb, 2, none⟩ = some fv
theorem orders_any (lv fv hv : Value) (c : Roads) (w : World) (hl : ∃ a k n, lv = .slice a k n) (hf : ∃ a k n, fv = .slice a k n) (hh : ∃ a k n, hv = .slice a k n) :
    Calls Tryz.prog 99 #[.agg #[lv, .int .i64 c.bears, fv], hv] w (OrdersPost lv fv hv c w) := by
  obtain ⟨a1, k1, n1, rfl⟩ := hl
  obtain ⟨a2, k2, n2, rfl⟩ := hf
  obtain ⟨a3, k3, n3, rfl⟩ := hh
  go_enter Tryz.func99, Tryz.ntmps99
  go_wp2
  go_ret
  exact ⟨_, _, rfl, ((Ext.refl w).alloc _).alloc _, by go_simp, by go_simp, by go_simp, by go_simp⟩

theorem best_orders (c : Roads) (hs : List Int) (w : World) (lv fv hv : Value) (hb cb : Nat) (hB : RoadsB c) (hR : RoadsAt w (.agg #[lv, .int .i64 c.bears, fv]) c) (hH : IntsAt w hv hs) (hl0 : hs.length ≤ 1000)
    (hst : ∀ n, n ∈ hs → 1 ≤ n ∧ n ≤ c.loads.length) (hld : ∀ x, x ∈ ordersOf hs → loadOf c x ≤ c.bears)
    (e1 : w.cell? ⟨hb, 0, none⟩ = some hv) (c0 : w.cell? ⟨cb, 0, none⟩ = some lv) (c1 : w.cell? ⟨cb, 1, none⟩ = some (.int .i64 c.bears)) (c2 : w.cell? ⟨cb, 2, none⟩ = some fv) :
    Calls Tryz.prog 98 #[.func (.func 120) #[] #[.pointer (some ⟨hb, 0, none⟩), .pointer (some ⟨cb, 0, none⟩)], .func (.func 100) #[] #[]] w (TourPost c hs w) := by
  refine (best_tour (shorterB c) (tourEn c (· < w.heap.size + 6)) (ordersOf hs) w _ _ _ _ enters_orders1 enters_shortest1 (fun A x v h => h.form) (fun A B x v h k => h.touch k (fun i hi => by omega)) (fun n A B x v h k => h.quiet k)
    (fun W hx hz => by
      have hi := (orders_iter c hs w W hb cb hv lv fv (fun i => w.heap.size ≤ i ∧ i < w.heap.size + 6) hB hR hH hl0 hst hld (fun i hi => by omega) (fun h => by have : hb < w.heap.size := lt_of_cell e1; omega) (fun h => by have : cb < w.heap.size := lt_of_cell c0; omega) hx (hx.cell e1) (hx.cell c0) (hx.cell c1) (hx.cell c2)).less (N := fun i => (i = w.heap.size + 2 ∨ i = w.heap.size + 3) ∨ i = w.heap.size + 5) (fun i hi => by omega)
      rw [hz] at hi
      exact hi)
    ?_).mono ?_
  · rintro A x y vx vy hx ⟨nx, rfl, hnx, _⟩ ⟨ny, rfl, hny, _⟩
    obtain ⟨a, k, rfl, _⟩ := hnx.open
    obtain ⟨a', k', rfl, _⟩ := hny.open
    exact shortest1_any _ _ _ _ A ⟨_, _, _, rfl⟩ ⟨_, _, _, rfl⟩
  · rintro e w' ⟨nv, dv, rfl, hx, h⟩
    cases hbb : firstBest (shorterB c) (ordersOf hs) with
    | none => rw [hbb] at h; obtain ⟨rfl, rfl⟩ := h; exact ⟨_, _, _, _, rfl, hx, by unfold bestTour; rw [hbb]; exact ⟨rfl, rfl, rfl, rfl⟩⟩
    | some x =>
      rw [hbb] at h
      obtain ⟨pa, n, k, d, hv⟩ := h.form
      cases hv
      obtain ⟨nv', h1, h2, h3⟩ := h
      cases h1
      exact ⟨_, _, _, _, rfl, hx, by unfold bestTour; rw [hbb]; exact ⟨rfl, h2, fun a ha => by subst ha; have := h3 _ _ _ rfl; simp only [Nat.not_lt] at this; omega⟩⟩

set_option maxRecDepth 100000 in
set_option maxHeartbeats 4000000 in
theorem shortest_ok (v hv : Value) (c : Roads) (hs : List Int) (w : World) (hB : RoadsB c) (hR : RoadsAt w v c) (hH : IntsAt w hv hs) (hl0 : hs.length ≤ 1000)
    (hst : ∀ n, n ∈ hs → 1 ≤ n ∧ n ≤ c.loads.length) (hld : ∀ x, x ∈ ordersOf hs → loadOf c x ≤ c.bears) :
    Calls Tryz.prog 65 #[v, hv] w (TourPost c hs w) := by
  have hR' := hR
  obtain ⟨lv, fv, rfl, hlv, hfv⟩ := hR'
  have HO := Lib.hid (fun w1 => orders_any lv fv hv c w1 (by obtain ⟨a, k, rfl, _⟩ := hlv.open; exact ⟨_, _, _, rfl⟩) (by obtain ⟨a, k, rfl, _⟩ := hfv.open; exact ⟨_, _, _, rfl⟩) (by obtain ⟨a, k, rfl, _⟩ := hH.open; exact ⟨_, _, _, rfl⟩))
  have HB := Lib.hid (fun w1 (hx : Ext w w1) hb cb => best_orders c hs w1 lv fv hv hb cb hB (hR.ext hx) (hH.ext hx) hl0 hst hld)
  obtain ⟨la, lk, rfl, _⟩ := hlv.open
  obtain ⟨fa, fk, rfl, _⟩ := hfv.open
  obtain ⟨ha, hk, rfl, _⟩ := hH.open
  clear hR hH hst hld hlv
  go_enter Tryz.func65, Tryz.ntmps65
  go_wp2_with (first | (go_at_call 99; refine (HO.out _).mono ?_; rintro e w1 ⟨hb, cb, rfl, hx1, e1, c0, c1, c2⟩) | (go_at_call 98; refine (HB.out w1 ((((Ext.refl w).alloc _).alloc _).trans hx1) hb cb e1 c0 c1 c2).mono ?_; rintro e w2 ⟨pa, n, k, d, rfl, hx2, hv⟩; have q0 := (hx1.trans hx2).cell (a := ⟨w.heap.size + 1, 0, none⟩) (v := .slice none 0 0) (by go_simp); have q1 := (hx1.trans hx2).cell (a := ⟨w.heap.size + 1, 1, none⟩) (v := .int .i64 0) (by go_simp); have g0 := ((hx1.trans hx2).frozen (a := ⟨w.heap.size + 1, 0, none⟩) (by simp)).trans (b := _) (c := false) (by go_simp); have g1 := ((hx1.trans hx2).frozen (a := ⟨w.heap.size + 1, 1, none⟩) (by simp)).trans (c := false) (by go_simp); have HV := Lib.hid hv; clear hv))
  have hx3 := (((Ext.refl w).alloc _).alloc _).trans (hx1.trans hx2)
  have hx4 : Ext w ((w2.setCell ⟨w.heap.size + 1, 0, none⟩ (.slice pa n k)).setCell ⟨w.heap.size + 1, 1, none⟩ (.int .i64 d)) := (hx3.setCell (by simp) _).setCell (by simp) _
  have r0 : ((w2.setCell ⟨w.heap.size + 1, 0, none⟩ (.slice pa n k)).setCell ⟨w.heap.size + 1, 1, none⟩ (.int .i64 d)).cell? ⟨w.heap.size + 1, 0, none⟩ = some (.slice pa n k) := by go_simp
  have r1 : ((w2.setCell ⟨w.heap.size + 1, 0, none⟩ (.slice pa n k)).setCell ⟨w.heap.size + 1, 1, none⟩ (.int .i64 d)).cell? ⟨w.heap.size + 1, 1, none⟩ = some (.int .i64 d) := by go_simp
  have hz := (((Ext.refl w).alloc (.cells #[.slice la c.loads.length lk, .int .i64 c.bears, .slice fa c.far.length fk] 69)).alloc (.cells #[.slice none 0 0, .int .i64 0] 107)).size
  refine bodyPost_ret (v := .agg #[.slice pa n k, .int .i64 d]) (by simp [results, Tryz.f65, go_sem, r0, r1]) rfl ⟨_, _, _, _, rfl, hx4, ?_⟩
  have hv := HV.out
  cases hbt : bestTour c hs with
  | none => rw [hbt] at hv; exact hv
  | some x =>
    rw [hbt] at hv
    have hs0 := hx1.size
    obtain ⟨v1, v2, v3⟩ := hv
    have hof : IntsOff (· < w1.heap.size) w2 (.slice pa n k) x := ⟨v2, fun a n' c' ha hlt => by cases ha; have := v3 _ rfl; simp only at hlt; omega⟩
    have hz2 : w.heap.size + 2 ≤ w1.heap.size := by simpa using hx1.size
    have h2 : Touch (· < w1.heap.size) w2 ((w2.setCell ⟨w.heap.size + 1, 0, none⟩ (.slice pa n k)).setCell ⟨w.heap.size + 1, 1, none⟩ (.int .i64 d)) :=
      ((Touch.refl _ w2).trans (Touch.setCell _ (by simp only; omega))).trans (Touch.setCell _ (by simp only; omega))
    exact ⟨v1, (hof.touch h2).1, fun a ha => by have := v3 a ha; omega⟩
end Go.Proofs.YtbeophjdiddomaaGreatDoor

/- A deferred closure that recovers: nothing to recover from. -/
namespace Go.Proofs.YtbeophjdiddomaaGreatDoor
open Go.RowKit

theorem try1_idle (b : Nat) (w : World) :
    CallsD Tryz.prog 97 #[.pointer (some ⟨b, 0, none⟩)] .returning w fun e u' w' => e = .returned (.tuple #[]) ∧ u' = .returning ∧ w' = w := by
  refine callsD_of_wpS Tryz.func97 rfl fun c₀ cs hu => ?_
  apply wpS_seq
  apply wpS_region
  simp [wpOpsS, go_sem, recoverD, hu, Tryz.ntmps97, Exit.thenS]
  refine wpS_of_wp ?_
  go_wp2
  cases c₀
  simp_all [bodyPostS, results, Tryz.results97]

theorem try_ok (f : Nat) (cap : Array Value) (ef : ∀ args w, (callFunc f args).run Tryz.prog w = .ok (.enter f args) w) (w : World) (M : Nat → Prop) (R : World → Prop) (hM : ¬ M w.heap.size)
    (hc : Calls Tryz.prog f cap (w.alloc (.cells #[.bool false] 4)) fun e w' => e = .returned (.tuple #[]) ∧ Touch M (w.alloc (.cells #[.bool false] 4)) w' ∧ R w') :
    Calls Tryz.prog 63 #[.func (.func f) #[] cap] w fun e w' => e = .returned (.bool true) ∧ ∃ w2, Touch M (w.alloc (.cells #[.bool false] 4)) w2 ∧ R w2 ∧ w' = w2.setCell ⟨w.heap.size, 0, none⟩ (.bool true) := by
  have hmf : ∀ (fn : Fn) (first cap : Array Value) (w : World), (Instr.makeFunc fn first cap).run Tryz.prog w = .ok (.func fn first cap) w := fun _ _ _ _ => rfl
  have HC := Lib.hid hc
  clear hc
  go_enter_defers Tryz.func63, Tryz.ntmps63
  go_wp2_with (refine HC.out.mono ?_; rintro e w1 ⟨rfl, ht, hr⟩; have q0 := ht.cell (a := ⟨w.heap.size, 0, none⟩) (v := .bool false) (by go_simp) hM; have hb := ht.keep w.heap.size _ (World.alloc_heap_new w _) hM; have g0 : w1.frozen? ⟨w.heap.size, 0, none⟩ = false := by (simp [World.frozen?, hb]))
  refine leaves_cons (f := 97) (args := #[.pointer (some ⟨w.heap.size, 0, none⟩)]) (by simp) (by simp [go_sem]) ?_
  refine (try1_idle _ _).mono ?_
  rintro e u' w'' ⟨rfl, rfl, rfl⟩
  have q1 : (w1.setCell ⟨w.heap.size, 0, none⟩ (.bool true)).cell? ⟨w.heap.size, 0, none⟩ = some (.bool true) := World.cell?_setCell_same _ _ _ q0
  simp [Leaves, settle, results, Tryz.results63, go_sem, q1]
  exact ⟨w1, ht, hr, rfl⟩

/-- How a closure that lays a best tour into a variable ends. -/
def ShortPost (c : Roads) (hs : List Int) (tb : Nat) (w : World) (w' : World) : Prop :=
  ∃ pa n k d, w'.cell? ⟨tb, 0, none⟩ = some (.slice pa n k) ∧ w'.cell? ⟨tb, 1, none⟩ = some (.int .i64 d) ∧ match bestTour c hs with | none => pa = none ∧ n = 0 ∧ k = 0 ∧ d = 0 | some x => d = lengthOf c x ∧ IntsAt w' (.slice pa n k) x ∧ ∀ a, pa = some a → w.heap.size ≤ a.block
theorem enters_tour1 : ∀ args w, (callFunc 64 args).run Tryz.prog w = .ok (.enter 64 args) w := enters_of Tryz.func64 (by kernel_rfl) rfl
set_option maxHeartbeats 2000000 in
theorem tour1_ok (lv fv hv : Value) (c : Roads) (hs : List Int) (w : World) (hb cb tb : Nat) (hB : RoadsB c) (hR : RoadsAt w (.agg #[lv, .int .i64 c.bears, fv]) c) (hH : IntsAt w hv hs) (hl0 : hs.length ≤ 1000)
    (hst : ∀ n, n ∈ hs → 1 ≤ n ∧ n ≤ c.loads.length) (hld : ∀ x, x ∈ ordersOf hs → loadOf c x ≤ c.bears)
    (e1 : w.cell? ⟨hb, 0, none⟩ = some hv) (c0 : w.cell? ⟨cb, 0, none⟩ = some lv) (c1 : w.cell? ⟨cb, 1, none⟩ = some (.int .i64 c.bears)) (c2 : w.cell? ⟨cb, 2, none⟩ = some fv)
    (t0 : w.cell? ⟨tb, 0, none⟩ = some (.slice none 0 0)) (t1 : w.cell? ⟨tb, 1, none⟩ = some (.int .i64 0)) (f0 : w.frozen? ⟨tb, 0, none⟩ = false) (f1 : w.frozen? ⟨tb, 1, none⟩ = false) :
    Calls Tryz.prog 64 #[.pointer (some ⟨cb, 0, none⟩), .pointer (some ⟨hb, 0, none⟩), .pointer (some ⟨tb, 0, none⟩)] w fun e w' => e = .returned (.tuple #[]) ∧ Touch (· = tb) w w' ∧ ShortPost c hs tb w w' := by
  have HS := Lib.hid (shortest_ok (.agg #[lv, .int .i64 c.bears, fv]) hv c hs w hB hR hH hl0 hst hld)
  obtain ⟨lv', fv', hv0, hlv, hfv⟩ := hR
  cases hv0
  obtain ⟨la, lk, rfl, _⟩ := hlv.open
  obtain ⟨fa, fk, rfl, _⟩ := hfv.open
  obtain ⟨ha, hk, rfl, _⟩ := hH.open
  have hlt : tb < w.heap.size := lt_of_cell t0
  clear hH hst hld hlv
  go_enter Tryz.func64, Tryz.ntmps64
  go_wp2_with (go_at_call 65; refine HS.out.mono ?_; rintro e w1 ⟨pa, n, k, d, rfl, hx1, hv⟩; have q0 := hx1.cell t0; have q1 := hx1.cell t1; have g0 := (hx1.frozen hlt).trans f0; have g1 := (hx1.frozen hlt).trans f1; have HV := Lib.hid hv; clear hv)
  have r0 : ((w1.setCell ⟨tb, 0, none⟩ (.slice pa n k)).setCell ⟨tb, 1, none⟩ (.int .i64 d)).cell? ⟨tb, 0, none⟩ = some (.slice pa n k) := by go_simp
  have r1 : ((w1.setCell ⟨tb, 0, none⟩ (.slice pa n k)).setCell ⟨tb, 1, none⟩ (.int .i64 d)).cell? ⟨tb, 1, none⟩ = some (.int .i64 d) := by go_simp
  have ht2 : Touch (· = tb) w1 ((w1.setCell ⟨tb, 0, none⟩ (.slice pa n k)).setCell ⟨tb, 1, none⟩ (.int .i64 d)) := ((Touch.refl _ w1).trans (Touch.setCell _ (by rfl))).trans (Touch.setCell _ (by rfl))
  go_end0
  refine ⟨rfl, (Touch.of_ext hx1).trans ht2, _, _, _, _, r0, r1, ?_⟩
  have hv := HV.out
  cases hbt : bestTour c hs with
  | none => rw [hbt] at hv; exact hv
  | some x =>
    rw [hbt] at hv
    obtain ⟨v1, v2, v3⟩ := hv
    have hof : IntsOff (· = tb) w1 (.slice pa n k) x := ⟨v2, fun a n' c' ha hlt => by cases ha; have := v3 _ rfl; simp only at hlt; omega⟩
    exact ⟨v1, (hof.touch ht2).1, v3⟩
end Go.Proofs.YtbeophjdiddomaaGreatDoor

/- Tour. -/
namespace Go.Proofs.YtbeophjdiddomaaGreatDoor
open Go.RowKit

def badAt (c : Roads) (hs : List Int) (i : Nat) : Bool := !isStopB c (hs.getD i 0) || (decide (0 < i) && decide (hs.getD i 0 ≤ hs.getD (i - 1) 0))
def badStops (c : Roads) (hs : List Int) : Bool := (List.range hs.length).any (badAt c hs)
theorem badStops_of {c : Roads} {hs : List Int} {i : Nat} (hi : i < hs.length) (h : badAt c hs i = true) : badStops c hs = true := by
  unfold badStops; rw [List.any_eq_true]; exact ⟨i, List.mem_range.2 hi, h⟩
theorem badStops_none {c : Roads} {hs : List Int} (h : ∀ i, i < hs.length → badAt c hs i = false) : badStops c hs = false := by
  unfold badStops; rw [List.any_eq_false]; intro i hi; rw [h i (List.mem_range.1 hi)]; simp
theorem badStops_stop {c : Roads} {hs : List Int} (h : badStops c hs = false) : ∀ n, n ∈ hs → 1 ≤ n ∧ n ≤ c.loads.length := by
  intro n hn
  obtain ⟨i, hi, rfl⟩ := List.mem_iff_getElem.1 hn
  unfold badStops at h
  rw [List.any_eq_false] at h
  have := h i (List.mem_range.2 hi)
  simp only [badAt, List.getD_eq_getElem?_getD, List.getElem?_eq_getElem hi, Option.getD_some, Bool.or_eq_true, Bool.not_eq_true', not_or, Bool.not_eq_false] at this
  have h1 := this.1
  unfold isStopB at h1
  exact inB_iff.1 h1

/-- What Tour answers. -/
def TourRes (c : Roads) (hs : List Int) (w : World) (e : Ending) (w' : World) : Prop :=
  ∃ nv d err, e = .returned (.tuple #[nv, .int .i64 d, .int .i64 err]) ∧ Ext w w' ∧
    if isRoadsB c = false ∨ hs.length = 0 ∨ badStops c hs = true then nv = .slice none 0 0 ∧ d = 0 ∧ err = 2
    else err = 0 ∧ match bestTour c hs with | none => nv = .slice none 0 0 ∧ d = 0 | some x => d = lengthOf c x ∧ IntsAt w' nv x

set_option maxRecDepth 100000 in
set_option maxHeartbeats 8000000 in
theorem tour_any (v hv : Value) (c : Roads) (hs : List Int) (w : World) (hR : RoadsAt w v c) (hH : IntsAt w hv hs) (hl0 : hs.length ≤ 1000)
    (hld : isRoadsB c = true → badStops c hs = false → ∀ x, x ∈ ordersOf hs → loadOf c x ≤ c.bears) :
    Calls Tryz.prog 31 #[v, hv] w (TourRes c hs w) := by
  have HR := Lib.hid (fun w1 (hx : Ext w w1) => isRoads_any v c w1 (hR.ext hx))
  have HST := Lib.hid (fun n w1 (hx : Ext w w1) => isStop_any v c n w1 (hR.ext hx))
  have HTC := Lib.hid (fun w1 (hx : Ext w w1) => hR.ext hx)
  have HHC := Lib.hid (fun w1 (hx : Ext w w1) => hH.ext hx)
  obtain ⟨lv, fv, rfl, hlv, hfv⟩ := hR
  obtain ⟨la, lk, rfl, _⟩ := hlv.open
  obtain ⟨fa, fk, rfl, _⟩ := hfv.open
  obtain ⟨ha, hk, rfl, k1, k2, h3⟩ := hH.open
  have HLD := Lib.hid hld
  clear hld hlv hfv hH
  have hmix : Tryz.prog.follows .mixedOrders = true := by kernel_rfl
  by_cases hr : isRoadsB c = true
  · by_cases hn : hs.length = 0
    · have hfin : ∀ w1, Ext w w1 → TourRes c hs w (.returned (.tuple #[.slice none 0 0, .int .i64 0, .int .i64 2])) w1 := fun w1 hx => ⟨_, _, _, rfl, hx, by rw [if_pos (.inr (.inl hn))]; exact ⟨rfl, rfl, rfl⟩⟩
      have HF := Lib.hid hfin
      clear hfin h3
      go_enter Tryz.func31, Tryz.ntmps31
      go_wp2_with (go_at_call 61; refine (HR.out _ (((Ext.refl w).alloc _).alloc _)).mono ?_; rintro e w1 ⟨rfl, hx1⟩; have q0 := hx1.cell (a := ⟨w.heap.size + 1, 0, none⟩) (v := .slice ha hs.length hk) (by go_simp))
      go_ret3
      exact HF.out _ ((((Ext.refl w).alloc _).alloc _).trans hx1)
    · have n1 : ((hs.length : Int) == 0) = false := by rw [beq_eq_false_iff_ne]; omega
      have n2 : (hs.length == 0) = false := by rw [beq_eq_false_iff_ne]; exact hn
      have hbadfin : ∀ w1 j, j < hs.length → badAt c hs j = true → Ext w w1 → TourRes c hs w (.returned (.tuple #[.slice none 0 0, .int .i64 0, .int .i64 2])) w1 := fun w1 j hj hb hx => ⟨_, _, _, rfl, hx, by rw [if_pos (.inr (.inr (badStops_of hj hb)))]; exact ⟨rfl, rfl, rfl⟩⟩
      have HF := Lib.hid hbadfin
      have HG := Lib.hid (fun (h : ∀ i, i < hs.length → badAt c hs i = false) => badStops_none h)
      clear hbadfin
      go_enter Tryz.func31, Tryz.ntmps31
      go_wp2_with (first | (go_at_call 61; refine (HR.out _ (((Ext.refl w).alloc _).alloc _)).mono ?_; rintro e w1 ⟨rfl, hx1⟩; have q0 := hx1.cell (a := ⟨w.heap.size + 1, 0, none⟩) (v := .slice ha hs.length hk) (by go_simp); have q1 := hx1.cell (a := ⟨w.heap.size, 0, none⟩) (v := .slice la c.loads.length lk) (by go_simp); have q2 := hx1.cell (a := ⟨w.heap.size, 1, none⟩) (v := .int .i64 c.bears) (by go_simp); have q3 := hx1.cell (a := ⟨w.heap.size, 2, none⟩) (v := .slice fa c.far.length fk) (by go_simp)))
      clear n1 n2
      go_loopw [20] (fun i wr => ∃ (j : Nat), j ≤ hs.length ∧ i = .int .i64 j ∧ Hid (∀ i, i < j → badAt c hs i = false) ∧ Ext w1 wr) (fun i _ => hs.length - (intOf i).toNat)
      case atStart => exact ⟨0, Nat.zero_le _, rfl, fun i hi => by omega, Ext.refl _⟩
      case round =>
        obtain ⟨j, hj, rfl, hgood, hx⟩ := hrel
        have hxw := ((((Ext.refl w).alloc (.cells #[.slice la c.loads.length lk, .int .i64 c.bears, .slice fa c.far.length fk] 69)).alloc (.cells #[.slice ha hs.length hk] 33)).trans hx1).trans hx
        have p0 := hx.cell q0
        have p1 := hx.cell q1
        have p2 := hx.cell q2
        have p3 := hx.cell q3
        clear q0 q1 q2 q3 hx1
        by_cases hlt : j < hs.length
        · obtain ⟨b, o, n, rfl, hnk, hc⟩ := h3 j hlt
          have hd := hxw.cell hc
          have hgn : hs.getD j 0 = n := by rw [List.getD_eq_getElem?_getD, hnk.out]; rfl
          by_cases hst : isStopB c n = true
          · cases j with
            | zero =>
              have hb0 : badAt c hs 0 = false := by unfold badAt; rw [hgn, hst]; simp
              have HB := Lib.hid hb0
              clear hb0 hc h3 hgn
              rw [Nat.add_zero] at hd
              go_wp2_with (go_at_call 62; refine (HST.out _ _ hxw).mono ?_; rintro e w2 ⟨rfl, hx2⟩; have z0 := hx2.cell p0; have z1 := hx2.cell hd)
              go_roundw
              case rel => exact ⟨1, by omega, by go_num, fun i hi => by (have : i = 0 := by omega); subst this; exact HB.out, hx.trans hx2⟩
              case measure => simp [intOf]; omega
            | succ m =>
              obtain ⟨b', o', n', hbb, hnk', hc'⟩ := h3 m (by omega)
              cases hbb
              have hd' := hxw.cell hc'
              have hgn' : hs.getD m 0 = n' := by rw [List.getD_eq_getElem?_getD, hnk'.out]; rfl
              have b1 : (0 : Int) ≤ (m : Int) := by omega
              have b2 : (m : Int) < (hs.length : Int) := by omega
              by_cases hle : n ≤ n'
              · have hb0 : badAt c hs (m + 1) = true := by unfold badAt; rw [hgn, hst, Nat.add_sub_cancel, hgn']; simp [hle]
                have HB := Lib.hid hb0
                clear hb0 hc hc' h3 hgn hgn' HG
                go_wp2_with (go_at_call 62; refine (HST.out _ _ hxw).mono ?_; rintro e w2 ⟨rfl, hx2⟩; have z0 := hx2.cell p0; have z1 := hx2.cell hd; have z2 := hx2.cell hd')
                go_ret3
                exact HF.out _ _ hlt HB.out (hxw.trans hx2)
              · have hb0 : badAt c hs (m + 1) = false := by unfold badAt; rw [hgn, hst, Nat.add_sub_cancel, hgn']; simp; omega
                have HB := Lib.hid hb0
                clear hb0 hc hc' h3 hgn hgn' HG
                go_wp2_with (go_at_call 62; refine (HST.out _ _ hxw).mono ?_; rintro e w2 ⟨rfl, hx2⟩; have z0 := hx2.cell p0; have z1 := hx2.cell hd; have z2 := hx2.cell hd')
                go_roundw
                case rel => exact ⟨m + 2, by omega, by go_num, fun i hi => by (by_cases h : i < m + 1); exact hgood.out i h; (have : i = m + 1 := by omega); subst this; exact HB.out, hx.trans hx2⟩
                case measure => simp [intOf]; omega
          · have hst' : isStopB c n = false := by simpa using hst
            have hb0 : badAt c hs j = true := by unfold badAt; rw [hgn, hst']; simp
            have HB := Lib.hid hb0
            clear hb0 hc h3 hgn hst HG
            go_wp2_with (go_at_call 62; refine (HST.out _ _ hxw).mono ?_; rintro e w2 ⟨rfl, hx2⟩; have z0 := hx2.cell p0; have z1 := hx2.cell hd)
            go_ret3
            exact HF.out _ _ hlt HB.out (hxw.trans hx2)
        · have hg := badStops_none (fun i hi => hgood.out i (by omega))
          have hst := badStops_stop hg
          have hld := HLD.out hr hg
          have hB := roadsB_of hr
          have hW1 : Ext w (wr.alloc (.cells #[.slice none 0 0, .int .i64 0] 107)) := hxw.alloc _
          have hcall := fun (W : World) (hW : Ext w W) (hne : W.heap.size ≠ wr.heap.size) t0 t1 f0 f1 e1 c0 c1 c2 => try_ok 64 #[.pointer (some ⟨w.heap.size, 0, none⟩), .pointer (some ⟨w.heap.size + 1, 0, none⟩), .pointer (some ⟨wr.heap.size, 0, none⟩)] enters_tour1 W (· = wr.heap.size) (ShortPost c hs wr.heap.size (W.alloc (.cells #[.bool false] 4))) hne
            (tour1_ok _ _ _ c hs (W.alloc (.cells #[.bool false] 4)) (w.heap.size + 1) w.heap.size wr.heap.size hB (HTC.out _ (hW.alloc _)) (HHC.out _ (hW.alloc _)) hl0 hst hld e1 c0 c1 c2 t0 t1 f0 f1)
          have HT := Lib.hid hcall
          clear hcall hst hld hB h3 hgood
          go_wp2_with (go_at_call 63; refine (HT.out _ hW1 (by simp) (by go_simp) (by go_simp) (by go_simp) (by go_simp) ((((Ext.refl wr).alloc _).alloc _).cell p0) ((((Ext.refl wr).alloc _).alloc _).cell p1) ((((Ext.refl wr).alloc _).alloc _).cell p2) ((((Ext.refl wr).alloc _).alloc _).cell p3)).mono ?_; rintro e w2 ⟨rfl, w3, ht, ⟨pa, n, k, d, s0, s1, s2⟩, rfl⟩; have s3 := (World.cell?_setCell_other (w := w3) (a := ⟨wr.heap.size + 1, 0, none⟩) (b := ⟨wr.heap.size, 0, none⟩) (v := .bool true) (by simp)).trans s0; have s4 := (World.cell?_setCell_other (w := w3) (a := ⟨wr.heap.size + 1, 0, none⟩) (b := ⟨wr.heap.size, 1, none⟩) (v := .bool true) (by simp)).trans s1)
          go_quiet (fail)
          go_wp2
          go_ret3
          have hsz := hxw.size
          have ht2 : Touch (· = wr.heap.size + 1) w3 (w3.setCell ⟨wr.heap.size + 1, 0, none⟩ (.bool true)) := Touch.setCell _ (by rfl)
          have hfx := Touch.ext (Touch.ext (hW1.alloc (.cells #[.bool false] 4)) ht (fun i hi => by omega)) ht2 (fun i hi => by omega)
          have hnd : ¬ (isRoadsB c = false ∨ hs.length = 0 ∨ badStops c hs = true) := by rw [hr, hg]; simp; intro h; exact hn (by rw [h]; rfl)
          refine ⟨.slice pa n k, d, 0, rfl, hfx.drewN _, ?_⟩
          rw [if_neg hnd]
          refine ⟨rfl, ?_⟩
          cases hbt : bestTour c hs with
          | none => rw [hbt] at s2; obtain ⟨rfl, rfl, rfl, rfl⟩ := s2; exact ⟨rfl, rfl⟩
          | some x =>
            rw [hbt] at s2
            obtain ⟨v1, v2, v3⟩ := s2
            have hof : IntsOff (· = wr.heap.size + 1) w3 (.slice pa n k) x := ⟨v2, fun a n' c' ha hlt => by cases ha; have := v3 _ rfl; simp at hlt this; omega⟩
            exact ⟨v1, (hof.touch ht2).1.ext ((Ext.refl _).drewN _)⟩
  · have hr' : isRoadsB c = false := by simpa using hr
    have hfin : ∀ w1, Ext w w1 → TourRes c hs w (.returned (.tuple #[.slice none 0 0, .int .i64 0, .int .i64 2])) w1 := fun w1 hx => ⟨_, _, _, rfl, hx, by rw [if_pos (.inl hr')]; exact ⟨rfl, rfl, rfl⟩⟩
    have HF := Lib.hid hfin
    clear hfin h3
    go_enter Tryz.func31, Tryz.ntmps31
    go_wp2_with (go_at_call 61; refine (HR.out _ (((Ext.refl w).alloc _).alloc _)).mono ?_; rintro e w1 ⟨rfl, hx1⟩; have q0 := hx1.cell (a := ⟨w.heap.size + 1, 0, none⟩) (v := .slice ha hs.length hk) (by go_simp))
    go_ret3
    exact HF.out _ ((((Ext.refl w).alloc _).alloc _).trans hx1)
end Go.Proofs.YtbeophjdiddomaaGreatDoor
