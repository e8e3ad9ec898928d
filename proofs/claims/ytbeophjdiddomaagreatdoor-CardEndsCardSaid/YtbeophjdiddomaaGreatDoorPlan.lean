/- Comparing lists of lists: slices.CompareFunc. -/
import Derived.Test.YtbeophjdiddomaaGreatDoorPush
import Derived.Test.YtbeophjdiddomaaGreatDoorTour
import Derived.Test.YtbeophjdiddomaaGreatDoorWaysb
import Derived.Deep.RegionHeld3
namespace Go.Proofs.YtbeophjdiddomaaGreatDoor
open Go.RowKit

theorem cmpL_zero : ∀ {x y : List Int}, cmpL x y = 0 ↔ x = y
  | [], [] => by simp [cmpL]
  | [], _ :: _ => by simp [cmpL]
  | _ :: _, [] => by simp [cmpL]
  | a :: x, b :: y => by
    have := @cmpL_zero x y
    by_cases h : cmpI a b = 0
    · rw [cmpL, if_pos h, this]; have := cmpI_zero.1 h; subst this; simp
    · rw [cmpL, if_neg h]; constructor
      · intro h'; exact absurd h' h
      · intro h'; cases h'; exact absurd (cmpI_zero.2 rfl) h
def cmpLL : List (List Int) → List (List Int) → Int
  | [], [] => 0
  | [], _ :: _ => -1
  | _ :: _, [] => 1
  | x :: l, y :: m => if cmpL x y = 0 then cmpLL l m else cmpL x y
theorem cmpLL_take {xs ys : List (List Int)} : ∀ {k : Nat}, xs.take k = ys.take k → k ≤ xs.length → k ≤ ys.length → cmpLL xs ys = cmpLL (xs.drop k) (ys.drop k) := by
  intro k
  induction k generalizing xs ys with
  | zero => intros; rfl
  | succ k ih =>
    intro h h1 h2
    cases xs with
    | nil => simp at h1
    | cons x xs =>
      cases ys with
      | nil => simp at h2
      | cons y ys =>
        simp only [List.take_succ_cons, List.cons.injEq] at h
        obtain ⟨rfl, h⟩ := h
        rw [cmpLL, if_pos (cmpL_zero.2 rfl)]; simp only [List.drop_succ_cons]
        exact ih h (by simpa using h1) (by simpa using h2)
theorem cmpLL_at {xs ys : List (List Int)} {k : Nat} {x y : List Int} (h : xs.take k = ys.take k) (hx : xs[k]? = some x) (hy : ys[k]? = some y) (hn : cmpL x y ≠ 0) : cmpLL xs ys = cmpL x y := by
  obtain ⟨h1, rfl⟩ := List.getElem?_eq_some_iff.1 hx
  obtain ⟨h2, rfl⟩ := List.getElem?_eq_some_iff.1 hy
  rw [cmpLL_take h (by omega) (by omega), List.drop_eq_getElem_cons h1, List.drop_eq_getElem_cons h2]
  simp [cmpLL, hn]

set_option maxHeartbeats 2000000 in
theorem compareFunc_any (v v' : Value) (xs ys : List (List Int)) (w : World) (hv : RowsAt w v xs) (hv' : RowsAt w v' ys) :
    Calls Tryz.prog 72 #[v, v', .func (.func 73) #[] #[]] w fun e w' => e = .returned (.int .i64 (cmpLL xs ys)) ∧ w = w' := by
  obtain ⟨a, c, rfl, h1, h2, h3⟩ := hv.open
  obtain ⟨a', c', rfl, h1', h2', h3'⟩ := hv'.open
  go_enter Tryz.func72, Tryz.ntmps72
  go_wp2
  go_loop [13] (fun i => ∃ k : Nat, k ≤ xs.length ∧ k ≤ ys.length ∧ i = .int .i64 k ∧ Hid (xs.take k = ys.take k)) (fun i => xs.length - (intOf i).toNat)
  case atStart => exact ⟨0, Nat.zero_le _, Nat.zero_le _, rfl, by simp [Hid]⟩
  case round =>
    obtain ⟨k, hk, hk', rfl, heq⟩ := hrel
    by_cases hlt : k < xs.length
    · obtain ⟨b, o, vx, x, rfl, hxk, hc, hvx⟩ := h3 k hlt
      by_cases hlt' : k < ys.length
      · obtain ⟨b', o', vy, y, rfl, hyk, hc', hvy⟩ := h3' k hlt'
        have HP := Lib.hid (plan11_any vx vy x y w hvx hvy)
        clear h3 h3' hv hv' hvx hvy
        by_cases hxy : x = y
        · subst hxy
          have hz : cmpL x x = 0 := cmpL_zero.2 rfl
          go_wp2_with (refine HP.out.mono ?_; rintro e w' ⟨rfl, rfl⟩)
          go_round
          case rel => exact ⟨k + 1, by omega, by omega, by go_num, by unfold Hid; rw [List.take_add_one, List.take_add_one, hxk.out, hyk.out, heq.out]⟩
          case measure => simp [intOf]; omega
        · have hz : (cmpL x y != 0) = true := by simpa [cmpL_zero] using hxy
          have hfin := Lib.hid (cmpLL_at heq.out hxk.out hyk.out (by simpa [cmpL_zero] using hxy))
          clear hxy
          go_wp2_with (refine HP.out.mono ?_; rintro e w' ⟨rfl, rfl⟩)
          go_ret
          exact ⟨by rw [hfin.out]; rfl, rfl⟩
      · have hfin : Hid (cmpLL xs ys = 1) := by
          unfold Hid
          rw [cmpLL_take heq.out hk hk', List.drop_eq_getElem_cons hlt, List.drop_of_length_le (l := ys) (by omega)]; rfl
        clear h3 h3' hv hv'
        go_wp2
        go_ret
        exact ⟨by rw [hfin.out]; rfl, rfl⟩
    · by_cases hlt' : k < ys.length
      · have hfin : Hid (cmpLL xs ys = -1) := by
          unfold Hid
          rw [cmpLL_take heq.out hk hk', List.drop_of_length_le (l := xs) (by omega), List.drop_eq_getElem_cons hlt']; rfl
        have hb : xs.length < ys.length := by omega
        clear h3 h3' hv hv'
        go_wp2
        go_ret
        exact ⟨by rw [hfin.out]; rfl, rfl⟩
      · have hfin : Hid (cmpLL xs ys = 0) := by
          unfold Hid
          rw [cmpLL_take heq.out hk hk', List.drop_of_length_le (l := xs) (by omega), List.drop_of_length_le (l := ys) (by omega)]; rfl
        have hb : ¬ xs.length < ys.length := by omega
        clear h3 h3' hv hv'
        go_wp2
        go_ret
        exact ⟨by rw [hfin.out]; rfl, rfl⟩
end Go.Proofs.YtbeophjdiddomaaGreatDoor

/- The first of some things than which none is better: plans. -/
namespace Go.Proofs.YtbeophjdiddomaaGreatDoor
open Go.RowKit

set_option maxRecDepth 100000 in
set_option maxHeartbeats 4000000 in
theorem best_plan {α : Type} (lt : α → α → Bool) (En : World → α → Value → Prop) (xs : List α) (w : World) (gf : Nat) (lb : Array Value) (bf : Nat) (cap : Array Value)
    (eg : ∀ args w, (callFunc gf args).run Tryz.prog w = .ok (.enter gf args) w) (eb : ∀ args w, (callFunc bf args).run Tryz.prog w = .ok (.enter bf args) w)
    (hform : ∀ A x v, En A x v → ∃ pa n c d, v = .agg #[.slice pa n c, .int .i64 d]) (hEnT : ∀ A B x v, En A x v → Touch (fun i => w.heap.size + 1 ≤ i ∧ i ≤ w.heap.size + 3) A B → En B x v) (hEnQ : ∀ n A B x v, En A x v → Quiet n A B → En B x v)
    (hiter : ∀ W, Ext w W → W.heap.size = w.heap.size + 6 → Iter Tryz.prog gf lb En xs (fun i => (i = w.heap.size + 2 ∨ i = w.heap.size + 3) ∨ i = w.heap.size + 5) W)
    (hlt : ∀ A x y vx vy, Ext w A → En A x vx → En A y vy → Calls Tryz.prog bf (#[vx, vy] ++ cap) A fun e A' => e = .returned (.bool (lt x y)) ∧ Ext A A') :
    Calls Tryz.prog 67 #[.func (.func gf) #[] lb, .func (.func bf) #[] cap] w (BestPost lt En xs w) := by
  have hmix : Tryz.prog.follows .mixedOrders = true := by kernel_rfl
  have HI := Lib.hid hiter
  have HL := Lib.hid hlt
  clear hiter hlt
  refine (callsIn_wide (n := 0)).1 ?_
  refine callsIn_of_wp_marks Tryz.func67 rfl trivial ?_ rfl
  simp only [Tryz.ntmps67, List.size_toArray, List.length_cons, List.length_nil, Nat.reduceAdd, Nat.reduceSub, Array.replicate_succ, Array.replicate_zero, List.push_toArray, List.append_toArray, List.nil_append, List.cons_append]
  gi_wp2
  have h0 : BestAt lt En xs (.func (.func bf) #[] cap) w 0 ((((w.alloc (Obj.cells #[Value.func (Fn.func bf) #[] cap] 120)).alloc (Obj.cells #[Value.slice none 0 0, Value.int IntKind.i64 0] 112)).alloc (Obj.cells #[Value.slice none 0 0, Value.int IntKind.i64 0] 112)).alloc (Obj.cells #[Value.bool true] 4)) :=
    ⟨(((((Ext.refl w).alloc _).alloc _).alloc _).alloc _), by go_simp, by go_simp, by go_simp, ⟨by go_simp, by go_simp⟩, ⟨by go_simp, by go_simp, by go_simp⟩, by go_simp, by go_simp, by go_simp⟩
  generalize hW0 : ((((w.alloc (Obj.cells #[Value.func (Fn.func bf) #[] cap] 120)).alloc (Obj.cells #[Value.slice none 0 0, Value.int IntKind.i64 0] 112)).alloc (Obj.cells #[Value.slice none 0 0, Value.int IntKind.i64 0] 112)).alloc (Obj.cells #[Value.bool true] 4)) = W0 at h0 ⊢
  have hz : W0.heap.size = w.heap.size + 4 := by rw [← hW0]; simp
  refine wpIn_range (gf := gf) (lb := lb) (by rfl) eg En xs (fun i => i = w.heap.size + 2 ∨ i = w.heap.size + 3) ?hM ?hiter (BestAt lt En xs (.func (.func bf) #[] cap) w) (fun _ _ => False) ?hI (fun _ _ _ h => h.elim) h0
    (fun k x v a' W => ∃ b pa n c d, v = .agg #[.slice pa n c, .int .i64 d] ∧ En W x v ∧ W.cell? ⟨b, 0, none⟩ = some (.slice pa n c) ∧ W.cell? ⟨b, 1, none⟩ = some (.int .i64 d) ∧
      a' = { tmps := #[Value.func (Fn.func gf) #[] lb, Value.func (Fn.func bf) #[] cap, undef, Value.pointer (some ⟨w.heap.size, 0, none⟩), Value.pointer (some ⟨w.heap.size + 1, 0, none⟩), Value.pointer (some ⟨w.heap.size + 1 + 1, 0, none⟩), Value.pointer (some ⟨w.heap.size + 1 + 1 + 1, 0, none⟩), Value.pointer (some ⟨b, 0, none⟩), Value.func (Fn.func gf) #[] lb, v, undef, undef, undef, undef, undef, undef, undef, undef, undef], defers := [] }) ?hAx ?hassign ?hbody ?hdone ?hstop
  case hM => intro k hk; omega
  case hiter =>
    intro W1 h1 h2
    rw [hz] at h2 ⊢
    exact HI.out W1 (h0.ext.trans h1) (by omega)
  case hI =>
    intro k A B h q
    exact h.quiet q (by omega) h.o.cells hEnQ
  case hAx =>
    rintro k x v a' A B ⟨b, pa, n, c, d, h1, h2, h3, h4, h5⟩ q
    exact ⟨b, pa, n, c, d, h1, hEnQ _ _ _ _ _ h2 q, q.cell h3, q.cell h4, h5⟩
  case hstop => intro D c W _ h; exact h.elim
  case hassign =>
    intro l k x v W K hi hx hen hK
    obtain ⟨pa, n, c, d, rfl⟩ := hform _ _ _ hen
    have HK := Lib.hid hK
    clear hK
    have hsz := hi.ext.size
    gi_wp2_with ((rw [Oper.semAt_eq _ _ _ (fun c h => by cases h)]; go_simp; try go_bits))
    exact HK.out _ _ ((Ext.refl W).alloc _) ⟨W.heap.size, pa, n, c, d, rfl, hEnQ 0 _ _ _ _ hen (Quiet.of_ext ((Ext.refl W).alloc _)), by go_simp, by go_simp, rfl⟩
  case hbody =>
    rintro l k x v a' W hl ⟨r, hr⟩ hi hx ⟨b, pa, n, c, d, rfl, hen, hb0, hb1, rfl⟩ hsz
    have e0 := hi.o
    have HX := Lib.hid hx
    have HN := Lib.hid hen
    clear hx hen
    have e1 := hi.b
    have e2 := hi.of.1
    have e3 := hi.of.2.1
    have e4 := hi.of.2.2
    cases hb : firstBest lt (xs.take k) with
    | none =>
      rw [hb] at e0
      obtain ⟨o1, o2, o3⟩ := e0
      gi_wp2_with ((rw [Oper.semAt_eq _ _ _ (fun c h => by cases h)]; go_simp; try go_bits))
      exact best_store hi HN.out (by rw [firstBest_succ lt HX.out, hb]; rfl) hEnT
    | some y =>
      rw [hb] at e0
      obtain ⟨o1, nv', dv', o2, o3, heny⟩ := e0
      obtain ⟨pa', n', c', d', hv'⟩ := hform _ _ _ heny
      cases hv'
      have HY := Lib.hid heny
      clear heny
      have HB := Lib.hid hb
      clear hb
      cases hl : lt x y with
      | true =>
        have hk : firstBest lt (xs.take (k + 1)) = some x := by rw [firstBest_succ lt HX.out, HB.out]; simp [stepBest, hl]
        have HK := Lib.hid hk
        clear hk
        gi_wp2_with (first | (refine (callsIn_wide.2 (HL.out W x y _ _ hi.ext HN.out HY.out)).mono ?_; rintro e w1 ⟨rfl, hx1⟩; have q0 := hx1.cell hb0; have q1 := hx1.cell hb1; have q2 := hx1.cell o1; have q3 := hx1.cell o2; have q4 := hx1.cell o3; have g2 := (hx1.frozen (lt_of_cell o2)).trans e2; have g3 := (hx1.frozen (lt_of_cell o3)).trans e3; have g4 := (hx1.frozen (lt_of_cell o1)).trans e4) | (rw [Oper.semAt_eq _ _ _ (fun c h => by cases h)]; go_simp; try go_bits))
        have hbs := best_store (hi.quiet (n := w.heap.size) (Quiet.of_ext hx1) (Nat.le_refl _) ⟨_, _, _, o2, o3, o1⟩ hEnQ) (hEnQ 0 _ _ _ _ HN.out (Quiet.of_ext hx1)) HK.out hEnT
        exact ⟨(Touch.of_ext hx1).trans hbs.1, hbs.2⟩
      | false =>
        have hk : firstBest lt (xs.take (k + 1)) = some y := by rw [firstBest_succ lt HX.out, HB.out]; simp [stepBest, hl]
        have HK := Lib.hid hk
        clear hk
        gi_wp2_with (first | (refine (callsIn_wide.2 (HL.out W x y _ _ hi.ext HN.out HY.out)).mono ?_; rintro e w1 ⟨rfl, hx1⟩; have q0 := hx1.cell hb0; have q1 := hx1.cell hb1; have q2 := hx1.cell o1; have q3 := hx1.cell o2; have q4 := hx1.cell o3; have g2 := (hx1.frozen (lt_of_cell o2)).trans e2; have g3 := (hx1.frozen (lt_of_cell o3)).trans e3; have g4 := (hx1.frozen (lt_of_cell o1)).trans e4) | (rw [Oper.semAt_eq _ _ _ (fun c h => by cases h)]; go_simp; try go_bits))
        have hq := hi.quiet (n := w.heap.size) (Quiet.of_ext hx1) (Nat.le_refl _) ⟨_, _, _, o2, o3, o1⟩ hEnQ
        exact ⟨Touch.of_ext hx1, ⟨hq.ext, hq.b, hq.r0, hq.r1, hq.rf, hq.of, by rw [HK.out]; have := hq.o; rw [HB.out] at this; exact this⟩⟩
  case hdone =>
    intro D W hD hi hd
    have e0 := hi.o
    rw [List.take_length] at e0
    have e1 := hi.r0
    have e2 := hi.r1
    have e3 := hi.rf.1
    have e4 := hi.rf.2
    cases hb : firstBest lt xs with
    | none =>
      rw [hb] at e0
      obtain ⟨o1, o2, o3⟩ := e0
      gi_wp2
      have ht : Touch (fun i => i = w.heap.size + 1) W ((W.setCell ⟨w.heap.size + 1, 0, none⟩ (.slice none 0 0)).setCell ⟨w.heap.size + 1, 1, none⟩ (.int .i64 0)) := ((Touch.refl _ W).trans (Touch.setCell _ (by rfl))).trans (Touch.setCell _ (by rfl))
      have hd3 := ht.keep _ _ hd (by omega)
      have c0 : ((W.setCell ⟨w.heap.size + 1, 0, none⟩ (.slice none 0 0)).setCell ⟨w.heap.size + 1, 1, none⟩ (.int .i64 0)).cell? ⟨w.heap.size + 1, 0, none⟩ = some (.slice none 0 0) := by go_simp
      have c1 : ((W.setCell ⟨w.heap.size + 1, 0, none⟩ (.slice none 0 0)).setCell ⟨w.heap.size + 1, 1, none⟩ (.int .i64 0)).cell? ⟨w.heap.size + 1, 1, none⟩ = some (.int .i64 0) := by go_simp
      generalize ((W.setCell ⟨w.heap.size + 1, 0, none⟩ (.slice none 0 0)).setCell ⟨w.heap.size + 1, 1, none⟩ (.int .i64 0)) = W3 at ht hd3 c0 c1 ⊢
      have hq : Quiet w.heap.size W3 (W3.putObj D (.deferred none)) := Quiet.putObj _ hd3 (by omega) rfl
      have d0 := hq.cell c0
      have d1 := hq.cell c1
      refine ⟨by simp, .inl ⟨_, _, rfl, run_takeDeferred hd3, ?_⟩⟩
      refine ⟨.agg #[(.slice none 0 0), (.int .i64 0)], by simp [results, Tryz.f67, go_sem, d0, d1], _, _, rfl, (ht.ext hi.ext (fun i hi => by omega)).quiet (Nat.le_refl _) hq, ?_⟩
      rw [hb]
      exact ⟨rfl, rfl⟩
    | some x =>
      rw [hb] at e0
      obtain ⟨o1, nv', dv', o2, o3, hen⟩ := e0
      obtain ⟨pa, n, c, d, hv⟩ := hform _ _ _ hen
      cases hv
      have HE := Lib.hid hen
      clear hen
      gi_wp2
      have ht : Touch (fun i => i = w.heap.size + 1) W ((W.setCell ⟨w.heap.size + 1, 0, none⟩ (.slice pa n c)).setCell ⟨w.heap.size + 1, 1, none⟩ (.int .i64 d)) := ((Touch.refl _ W).trans (Touch.setCell _ (by rfl))).trans (Touch.setCell _ (by rfl))
      have hd3 := ht.keep _ _ hd (by omega)
      have c0 : ((W.setCell ⟨w.heap.size + 1, 0, none⟩ (.slice pa n c)).setCell ⟨w.heap.size + 1, 1, none⟩ (.int .i64 d)).cell? ⟨w.heap.size + 1, 0, none⟩ = some (.slice pa n c) := by go_simp
      have c1 : ((W.setCell ⟨w.heap.size + 1, 0, none⟩ (.slice pa n c)).setCell ⟨w.heap.size + 1, 1, none⟩ (.int .i64 d)).cell? ⟨w.heap.size + 1, 1, none⟩ = some (.int .i64 d) := by go_simp
      generalize ((W.setCell ⟨w.heap.size + 1, 0, none⟩ (.slice pa n c)).setCell ⟨w.heap.size + 1, 1, none⟩ (.int .i64 d)) = W3 at ht hd3 c0 c1 ⊢
      have hq : Quiet w.heap.size W3 (W3.putObj D (.deferred none)) := Quiet.putObj _ hd3 (by omega) rfl
      have d0 := hq.cell c0
      have d1 := hq.cell c1
      refine ⟨by simp, .inl ⟨_, _, rfl, run_takeDeferred hd3, ?_⟩⟩
      refine ⟨.agg #[(.slice pa n c), (.int .i64 d)], by simp [results, Tryz.f67, go_sem, d0, d1], _, _, rfl, (ht.ext hi.ext (fun i hi => by omega)).quiet (Nat.le_refl _) hq, ?_⟩
      rw [hb]
      exact hEnQ _ _ _ _ _ (hEnT _ _ _ _ HE.out (ht.mono (fun i hi => by omega))) hq
end Go.Proofs.YtbeophjdiddomaaGreatDoor

/- Plan. -/
namespace Go.Proofs.YtbeophjdiddomaaGreatDoor
open Go.RowKit

theorem ints_new (w : World) (cs : Array Value) (xs : List Int) (t : TypeId) (n : Nat) (h : cs.toList = xs.map (.int .i64)) (hn : n = xs.length) (hl : xs.length ≤ 1000) : IntsAt (w.alloc (.cells cs t)) (.slice (some ⟨w.heap.size, 0, none⟩) n n) xs := by
  subst hn
  have := RowAt.new w cs t xs.length xs.length (Nat.le_refl _) (by unfold maxLen; omega)
  rw [h] at this
  exact this

/-- Is a plan better than another one? -/
def betterB (c : Roads) (x y : List (List Int)) : Bool := decide (orI [cmpI x.length y.length, cmpI (planLen c x) (planLen c y), cmpLL x y] < 0)

set_option maxRecDepth 100000 in
set_option maxHeartbeats 4000000 in
theorem plan1_any (c : Roads) (sa sb : Value) (x y : List (List Int)) (w : World) (ha : RowsAt w sa x) (hb : RowsAt w sb y) :
    Calls Tryz.prog 69 #[.agg #[sa, .int .i64 (planLen c x)], .agg #[sb, .int .i64 (planLen c y)]] w fun e w' => e = .returned (.bool (betterB c x y)) ∧ Ext w w' := by
  have HC := Lib.hid (fun w1 (hx : Ext w w1) => compareFunc_any sa sb x y w1 (ha.ext hx) (hb.ext hx))
  obtain ⟨a, k, rfl, _⟩ := ha.open
  obtain ⟨a', k', rfl, _⟩ := hb.open
  have hmix : Tryz.prog.follows .mixedOrders = true := by kernel_rfl
  unfold betterB
  generalize planLen c x = px
  generalize planLen c y = py
  clear ha hb
  go_enter Tryz.func69, Tryz.ntmps69
  go_wp2
  have hx0 : Ext w ((w.alloc (.cells #[.slice a x.length k, .int .i64 px] 112)).alloc (.cells #[.slice a' y.length k', .int .i64 py] 112)) := ((Ext.refl w).alloc _).alloc _
  have c0 : ((w.alloc (.cells #[.slice a x.length k, .int .i64 px] 112)).alloc (.cells #[.slice a' y.length k', .int .i64 py] 112)).cell? ⟨w.heap.size, 0, none⟩ = some (.slice a x.length k) := by go_simp
  have c1 : ((w.alloc (.cells #[.slice a x.length k, .int .i64 px] 112)).alloc (.cells #[.slice a' y.length k', .int .i64 py] 112)).cell? ⟨w.heap.size, 1, none⟩ = some (.int .i64 px) := by go_simp
  have c2 : ((w.alloc (.cells #[.slice a x.length k, .int .i64 px] 112)).alloc (.cells #[.slice a' y.length k', .int .i64 py] 112)).cell? ⟨w.heap.size + 1, 0, none⟩ = some (.slice a' y.length k') := by go_simp
  have c3 : ((w.alloc (.cells #[.slice a x.length k, .int .i64 px] 112)).alloc (.cells #[.slice a' y.length k', .int .i64 py] 112)).cell? ⟨w.heap.size + 1, 1, none⟩ = some (.int .i64 py) := by go_simp
  generalize ((w.alloc (.cells #[.slice a x.length k, .int .i64 px] 112)).alloc (.cells #[.slice a' y.length k', .int .i64 py] 112)) = W at hx0 c0 c1 c2 c3 ⊢
  have HD := Lib.hid (HC.out _ (hx0.drew))
  have HO := Lib.hid (or_any _ [cmpI x.length y.length, cmpI px py, cmpLL x y] _ ((ints_new W #[.int .i64 (cmpI x.length y.length), .int .i64 (cmpI px py), .int .i64 (cmpLL x y)] [cmpI x.length y.length, cmpI px py, cmpLL x y] 3 3 rfl rfl (by simp)).ext ((Ext.refl _).drew)))
  go_region_held3 (fun w' => w'.cell? ⟨w.heap.size, 0, none⟩ = some (.slice a x.length k) ∧ w'.cell? ⟨w.heap.size, 1, none⟩ = some (.int .i64 px) ∧ w'.cell? ⟨w.heap.size + 1, 0, none⟩ = some (.slice a' y.length k') ∧ w'.cell? ⟨w.heap.size + 1, 1, none⟩ = some (.int .i64 py)) (go_keep)
    (first | (go_at_call 71; refine (compare_any _ _ _).mono ?_; rintro e w6 ⟨rfl, rfl⟩) | (go_at_call 72; refine HD.out.mono ?_; rintro e w6 ⟨rfl, rfl⟩) | (go_at_call 70; refine HO.out.mono ?_; rintro e w6 ⟨rfl, rfl⟩))
  go_wp2
  go_ret
  exact ⟨rfl, (hx0.alloc _).drew⟩
end Go.Proofs.YtbeophjdiddomaaGreatDoor
