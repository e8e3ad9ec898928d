/- The iterator over plans. -/
import Derived.Test.YtbeophjdiddomaaGreatDoorPush
import Derived.RangeFuncBound
import Derived.RangeFuncCalls
import Derived.OwnWalkIn
import Derived.TacticsInMore
import Derived.LoopIn
import Derived.Laws.EntriesVeiled
import Derived.Test.YtbeophjdiddomaaGreatDoorWeigh
namespace Go.Proofs.YtbeophjdiddomaaGreatDoor
open Go.RowKit
attribute [local go_sem] Oper.semAt_some

def PartsPost (f : Nat) (lv fv : Value) (c : Roads) (w : World) (e : Ending) (w' : World) : Prop :=
  ∃ cb, e = .returned (.func (.func f) #[] #[.pointer (some ⟨cb, 0, none⟩)]) ∧ Ext w w' ∧ w.heap.size ≤ cb ∧ w'.cell? ⟨cb, 0, none⟩ = some lv ∧ w'.cell? ⟨cb, 1, none⟩ = some (.int .i64 c.bears) ∧ w'.cell? ⟨cb, 2, none⟩ = some fv
theorem parts_any (lv fv : Value) (c : Roads) (w : World) (hl : ∃ a k n, lv = .slice a k n) (hf : ∃ a k n, fv = .slice a k n) :
    Calls Tryz.prog 102 #[.agg #[lv, .int .i64 c.bears, fv]] w (PartsPost 124 lv fv c w) := by
  obtain ⟨a1, k1, n1, rfl⟩ := hl
  obtain ⟨a2, k2, n2, rfl⟩ := hf
  go_enter Tryz.func102, Tryz.ntmps102
  go_wp2
  go_ret
  exact ⟨_, rfl, (Ext.refl w).alloc _, Nat.le_refl _, by go_simp, by go_simp, by go_simp⟩
theorem plans_any (lv fv : Value) (c : Roads) (w : World) (hl : ∃ a k n, lv = .slice a k n) (hf : ∃ a k n, fv = .slice a k n) :
    Calls Tryz.prog 68 #[.agg #[lv, .int .i64 c.bears, fv]] w (PartsPost 101 lv fv c w) := by
  obtain ⟨a1, k1, n1, rfl⟩ := hl
  obtain ⟨a2, k2, n2, rfl⟩ := hf
  go_enter Tryz.func68, Tryz.ntmps68
  go_wp2
  go_ret
  exact ⟨_, rfl, (Ext.refl w).alloc _, Nat.le_refl _, by go_simp, by go_simp, by go_simp⟩
theorem enters_parts1 : ∀ args w, (callFunc 124 args).run Tryz.prog w = .ok (.enter 124 args) w := enters_of Tryz.func124 (by kernel_rfl) rfl
theorem enters_plans1 : ∀ args w, (callFunc 101 args).run Tryz.prog w = .ok (.enter 101 args) w := enters_of Tryz.func101 (by kernel_rfl) rfl

def planEn (c : Roads) (M : Nat → Prop) (A : World) (x : List (List Int)) (v : Value) : Prop := ∃ sv, v = .agg #[sv, .int .i64 (planLen c x)] ∧ RowsOff M A sv x

/-- What a round of the loop over plans leaves. -/
structure PlanI (c : Roads) (w0 : World) (yb cb l : Nat) (lv fv : Value) (J : World → Prop) (A : World) : Prop where
  ext : Ext w0 A
  y : A.cell? ⟨yb, 0, none⟩ = some (.func (.yield l) #[] #[])
  c0 : A.cell? ⟨cb, 0, none⟩ = some lv
  c1 : A.cell? ⟨cb, 1, none⟩ = some (.int .i64 c.bears)
  c2 : A.cell? ⟨cb, 2, none⟩ = some fv
  j : J A
theorem PlanI.quiet {c : Roads} {w0 : World} {yb cb l n : Nat} {lv fv : Value} {J : World → Prop} {A B : World} (h : PlanI c w0 yb cb l lv fv J A) (hJ : Stable n J) (hn : w0.heap.size ≤ n) (q : Quiet n A B) : PlanI c w0 yb cb l lv fv J B :=
  ⟨h.ext.quiet hn q, q.cell h.y, q.cell h.c0, q.cell h.c1, q.cell h.c2, hJ A B h.j q⟩

/-- The loop over the lists of a partition: the tours that were found. -/
structure PlanLoop (c : Roads) (x : List (List Int)) (Wd : World) (k : Nat) (tsv : Value) (vs : List Value) (W : World) : Prop where
  ext : Ext Wd W
  own : W.ownsRow (Wd.heap.size + 1) 33 1 tsv k vs
  p0 : W.cell? ⟨Wd.heap.size, 0, none⟩ = some tsv
  p1 : W.cell? ⟨Wd.heap.size, 1, none⟩ = some (.int .i64 (planLen c ((x.take k).map (tourOf c))))
  f0 : W.frozen? ⟨Wd.heap.size, 0, none⟩ = false
  f1 : W.frozen? ⟨Wd.heap.size, 1, none⟩ = false
  len : vs.length = k
  each : ∀ (i : Nat) (u : Value) (us : List Int), vs[i]? = some u → ((x.take k).map (tourOf c))[i]? = some us → IntsOff (fun b => tsv.ownBlock = some b ∨ b < Wd.heap.size + 1) W u us

theorem Touch.frozen {M : Nat → Prop} {A B : World} (k : Touch M A B) {a : Addr} {v : Value} (h : A.cell? a = some v) (hn : ¬ M a.block) : B.frozen? a = A.frozen? a := by
  obtain ⟨o, ho, _⟩ := cells_of_cell h
  exact World.frozen?_of_block (w := A) ((k.keep _ _ ho hn).trans ho.symm)

theorem lengthOf_range {c : Roads} (hB : RoadsB c) {l : List Int} (hs : ∀ n, n ∈ l → 1 ≤ n ∧ n ≤ c.loads.length) : 0 ≤ lengthOf c l ∧ lengthOf c l ≤ (l.length + 1) * 1000 := by
  unfold lengthOf
  rw [goOf_legs]
  have h0 : (0 : Int) ≤ 0 ∧ (0 : Int) ≤ c.loads.length := by omega
  have hl := lastOf_range (c := c) 0 l h0 hs
  have := sum_bound (l := legs c 0 l ++ [farOf c (lastOf 0 l) 0]) (b := 1000) (fun x hx => by
    rcases List.mem_append.1 hx with h | h
    · exact legs_range hB 0 l h0 hs x h
    · rw [List.mem_singleton.1 h]; exact farOf_range hB hl (by omega))
  rw [List.length_append, legs_length] at this
  simpa using this
/-- What a good list's tour is. -/
theorem tour_good {c : Roads} {m : Nat} {l : List Int} (hg : GoodPart c m l) : bestTour c l = some (tourOf c l) ∧ (tourOf c l).Perm l := by
  obtain ⟨h1, h2⟩ := bestTour_some (c := c) hg.nodup
  exact ⟨h1, ordersOf_perm h2⟩
theorem tour_range {c : Roads} (hB : RoadsB c) {l : List Int} (hg : GoodPart c c.loads.length l) : 0 ≤ lengthOf c (tourOf c l) ∧ lengthOf c (tourOf c l) ≤ 6000 := by
  obtain ⟨_, hp⟩ := tour_good hg
  have := lengthOf_range hB (l := tourOf c l) (fun n hn => hg.rng n (hp.mem_iff.1 hn))
  have h5 := hB.n2
  have h6 := hg.len
  rw [hp.length_eq] at this
  omega
theorem plan_range {c : Roads} (hB : RoadsB c) {x : List (List Int)} (hx : ∀ l, l ∈ x → GoodPart c c.loads.length l) : 0 ≤ planLen c (x.map (tourOf c)) ∧ planLen c (x.map (tourOf c)) ≤ x.length * 6000 := by
  have := sum_bound (l := (x.map (tourOf c)).map (lengthOf c)) (b := 6000) (fun n hn => by
    simp only [List.mem_map] at hn
    obtain ⟨_, ⟨l, hl, rfl⟩, rfl⟩ := hn
    exact tour_range hB (hx l hl))
  simpa [planLen] using this
theorem planLen_succ {c : Roads} {x : List (List Int)} {k : Nat} {l : List Int} (h : x[k]? = some l) : planLen c ((x.take (k + 1)).map (tourOf c)) = planLen c ((x.take k).map (tourOf c)) + lengthOf c (tourOf c l) := by
  rw [List.take_add_one, h]; simp [planLen]

theorem owns_touch {M : Nat → Prop} {w w' : World} {base : Nat} {e : TypeId} {size : Nat} {v : Value} {n : Nat} {xs : List Value} (h : w.ownsRow base e size v n xs) (k : Touch M w w') (hn : ∀ g, v.ownBlock = some g → ¬ M g) : w'.ownsRow base e size v n xs := by
  obtain ⟨h1, h2⟩ := h
  refine ⟨h1, ?_⟩
  rcases h2 with h2 | ⟨g, cap, cur, rfl, hg, hh, rest⟩
  · exact .inl h2
  · exact .inr ⟨g, cap, cur, rfl, hg, k.keep g _ hh (hn g rfl), rest⟩
/-- The block of a slice that has an element lies in the world. -/
theorem block_lt {w : World} {a : Addr} {n c : Nat} {xs : List Int} (h : IntsAt w (.slice (some a) n c) xs) (hx : xs ≠ []) : a.block < w.heap.size := by
  obtain ⟨a', c', hv, r1, r2, r0, r3⟩ := h
  cases hv
  cases xs with
  | nil => exact absurd rfl hx
  | cons z zs =>
    obtain ⟨b', o', ha', hc'⟩ := r3 0 (.int .i64 z) rfl
    cases ha'
    exact lt_of_cell hc'
theorem tour_ne {c : Roads} {m : Nat} {l : List Int} (hg : GoodPart c m l) : tourOf c l ≠ [] := fun e => by
  have := (tour_good hg).2.length_eq
  rw [e] at this
  exact hg.ne (List.length_eq_zero_iff.1 this.symm)

theorem plan_step {c : Roads} {x : List (List Int)} {Wd : World} {k : Nat} {tsv : Value} {vs : List Value} {wr w2 w5 : World} {hs : List Int} {d : Int} {pa : Option Addr} {n kk g cap : Nat} {t1 t2 : TypeId}
    (h : PlanLoop c x Wd k tsv vs wr) (hgood : ∀ l, l ∈ x → GoodPart c c.loads.length l) (hk : x[k]? = some hs) (hd : d = lengthOf c (tourOf c hs)) (hx : Ext wr w2) (hi : IntsAt w2 (.slice pa n kk) (tourOf c hs)) (hfr : ∀ a, pa = some a → wr.heap.size ≤ a.block)
    (own5 : w5.ownsRow (Wd.heap.size + 1) 33 1 (.slice (some ⟨g, 0, none⟩) (k + 1) cap) (k + 1) (vs ++ [.slice pa n kk]))
    (hg : ((w2.alloc (.cells #[.slice pa n kk, .int .i64 d] t1)).alloc (.cells #[.slice pa n kk] t2)).grownBy w5 tsv.ownBlock) (hloc : tsv.ownBlock = some g ∨ g = w2.heap.size + 2) :
    (w5.cell? ⟨Wd.heap.size, 0, none⟩ = some tsv ∧ w5.cell? ⟨Wd.heap.size, 1, none⟩ = some (.int .i64 (planLen c ((x.take k).map (tourOf c)))) ∧ w5.frozen? ⟨Wd.heap.size, 0, none⟩ = false ∧ w5.frozen? ⟨Wd.heap.size, 1, none⟩ = false ∧ w5.cell? ⟨w2.heap.size, 1, none⟩ = some (.int .i64 d) ∧ w5.cell? ⟨w2.heap.size, 0, none⟩ = some (.slice pa n kk)) ∧
    PlanLoop c x Wd (k + 1) (.slice (some ⟨g, 0, none⟩) (k + 1) cap) (vs ++ [.slice pa n kk])
      ((w5.setCell ⟨Wd.heap.size, 0, none⟩ (.slice (some ⟨g, 0, none⟩) (k + 1) cap)).setCell ⟨Wd.heap.size, 1, none⟩ (.int .i64 (planLen c ((x.take k).map (tourOf c)) + d))) := by
  subst hd
  have hsz0 := h.ext.size
  have hsz := hx.size
  have hb : ∀ i, tsv.ownBlock = some i → Wd.heap.size + 1 ≤ i ∧ i < wr.heap.size := fun i hi => ⟨owns_block h.own i hi, (World.ownsRow.lt h.own i hi).2⟩
  have hx4 : Ext wr ((w2.alloc (.cells #[.slice pa n kk, .int .i64 (lengthOf c (tourOf c hs))] t1)).alloc (.cells #[.slice pa n kk] t2)) := (hx.alloc _).alloc _
  have hT : Touch (fun i => tsv.ownBlock = some i) wr w5 := (Touch.of_ext hx4).trans (Touch.grown hg (fun i hi => hi))
  have nb : ¬ tsv.ownBlock = some Wd.heap.size := fun e => by have := (hb _ e).1; omega
  have q0 := hT.cell h.p0 nb
  have q1 := hT.cell h.p1 nb
  have g0 := (hT.frozen h.p0 nb).trans h.f0
  have g1 := (hT.frozen h.p1 nb).trans h.f1
  have hT2 : Touch (fun i => tsv.ownBlock = some i) ((w2.alloc (.cells #[.slice pa n kk, .int .i64 (lengthOf c (tourOf c hs))] t1)).alloc (.cells #[.slice pa n kk] t2)) w5 := Touch.grown hg (fun i hi => hi)
  have n2 : ¬ tsv.ownBlock = some w2.heap.size := fun e => by have := (hb _ e).2; omega
  have d1 := hT2.cell (a := ⟨w2.heap.size, 1, none⟩) (v := .int .i64 (lengthOf c (tourOf c hs))) (by go_simp) n2
  have d0 := hT2.cell (a := ⟨w2.heap.size, 0, none⟩) (v := .slice pa n kk) (by go_simp) n2
  refine ⟨⟨q0, q1, g0, g1, d1, d0⟩, ?_⟩
  have hbase := owns_block own5 g rfl
  have hTs : Touch (· = Wd.heap.size) w5 ((w5.setCell ⟨Wd.heap.size, 0, none⟩ (.slice (some ⟨g, 0, none⟩) (k + 1) cap)).setCell ⟨Wd.heap.size, 1, none⟩ (.int .i64 (planLen c ((x.take k).map (tourOf c)) + lengthOf c (tourOf c hs)))) :=
    ((Touch.refl _ w5).trans (Touch.setCell _ (by rfl))).trans (Touch.setCell _ (by rfl))
  have hown7 := owns_touch own5 hTs (fun i hi => by have hgi : g = i := (by simpa [Value.ownBlock] using hi); omega)
  have hE5 : Ext Wd w5 := Touch.ext h.ext hT (fun i hi => by have := (hb i hi).1; omega)
  refine ⟨Touch.ext hE5 hTs (fun i hi => by omega), hown7, by go_simp, by rw [planLen_succ hk]; go_simp, by go_simp, by go_simp, by rw [List.length_append, h.len]; rfl, ?_⟩
  intro i u us hu hus
  rw [List.take_add_one, hk, List.map_append] at hus
  have hlt : (List.map (tourOf c) (x.take k)).length = k := by
    have := (List.getElem?_eq_some_iff.1 hk).1
    rw [List.length_map, List.length_take]; omega
  have key : IntsOff (fun b => (Value.slice (some ⟨g, 0, none⟩) (k + 1) cap).ownBlock = some b ∨ b < Wd.heap.size + 1) w5 u us := by
    rcases Nat.lt_or_ge i k with hik | hik
    · rw [List.getElem?_append_left (by rw [h.len]; exact hik)] at hu
      rw [List.getElem?_append_left (by omega)] at hus
      have h1 := h.each i u us hu hus
      have h2 := h1.touch (hT.mono (fun b hb => .inl hb))
      refine ⟨h2.1, fun a n' c' ha hm => ?_⟩
      rcases hm with hm | hm
      · have hgb : g = a.block := by simpa [Value.ownBlock] using hm
        rcases hloc with hl | hl
        · exact h1.2 a n' c' ha (.inl (by rw [hl, hgb]))
        · have hne : us ≠ [] := by
            have := List.mem_of_getElem? hus
            simp only [List.mem_map] at this
            obtain ⟨l, hl', rfl⟩ := this
            exact tour_ne (hgood l (List.mem_of_mem_take hl'))
          have := block_lt (ha ▸ h1.1) hne
          omega
      · exact h1.2 a n' c' ha (.inr hm)
    · have hik' : i = k := by
        have := (List.getElem?_eq_some_iff.1 hu).1
        rw [List.length_append, h.len, List.length_singleton] at this; omega
      subst hik'
      rw [List.getElem?_append_right (by rw [h.len]; exact Nat.le_refl _)] at hu
      rw [List.getElem?_append_right (by omega), hlt, Nat.sub_self] at hus
      simp [h.len] at hu
      have hus : tourOf c hs = us := by simpa using hus
      subst hu; subst hus
      have hne := tour_ne (hgood hs (List.mem_of_getElem? hk))
      have hi5 : IntsOff (fun i => tsv.ownBlock = some i) w2 (.slice pa n kk) (tourOf c hs) := ⟨hi, fun a n' c' ha hm => by cases ha; have := (hb _ hm).2; have := hfr _ rfl; omega⟩
      have hi6 := hi5.touch (Touch.trans (Touch.of_ext ((((Ext.refl w2).alloc _).alloc _))) hT2)
      refine ⟨hi6.1, fun a n' c' ha hm => ?_⟩
      cases ha
      have hlt2 := block_lt hi hne
      have hf2 := hfr _ rfl
      have hp0 := lt_of_cell h.p0
      simp only at hp0
      rcases hm with hm | hm
      · have hgb : g = a.block := by simpa [Value.ownBlock] using hm
        rcases hloc with hl | hl
        · have := (hb _ hl).2; omega
        · omega
      · omega
  exact key.touch (hTs.mono (fun b hb => .inr (by omega)))
end Go.Proofs.YtbeophjdiddomaaGreatDoor

/- The iterator over plans: the walk. -/
namespace Go.Proofs.YtbeophjdiddomaaGreatDoor
open Go.RowKit
attribute [local go_sem] Oper.semAt_some

set_option maxRecDepth 100000 in
set_option maxHeartbeats 8000000 in
theorem plans_iter (c : Roads) (w0 W : World) (cb : Nat) (lv fv : Value) (M : Nat → Prop)
    (hB : RoadsB c) (hR : RoadsAt w0 (.agg #[lv, .int .i64 c.bears, fv]) c)
    (hM : ∀ i, M i → w0.heap.size ≤ i ∧ i < W.heap.size) (m3 : ¬ M cb) (hx : Ext w0 W)
    (c0 : W.cell? ⟨cb, 0, none⟩ = some lv) (c1 : W.cell? ⟨cb, 1, none⟩ = some (.int .i64 c.bears)) (c2 : W.cell? ⟨cb, 2, none⟩ = some fv) :
    Iter Tryz.prog 101 #[.pointer (some ⟨cb, 0, none⟩)] (planEn c (· < W.heap.size)) (plansOf c) M W := by
  intro l J Jx hJ hJx hY h0
  have hmix : Tryz.prog.follows .mixedOrders = true := by kernel_rfl
  have hR' := hR
  obtain ⟨lv', fv', e', hlv, hfv⟩ := hR'
  cases e'
  obtain ⟨la, lk, rfl, _⟩ := hlv.open
  obtain ⟨fa, fk, rfl, _⟩ := hfv.open
  clear hlv hfv
  have HP := Lib.hid (fun w1 => parts_any (.slice la c.loads.length lk) (.slice fa c.far.length fk) c w1 ⟨_, _, _, rfl⟩ ⟨_, _, _, rfl⟩)
  have HJ := Lib.hid hJ
  have HY := Lib.hid hY
  have HM := Lib.hid hM
  clear hY hJ hM
  have hx0 := (Ext.refl W).alloc (.cells #[.func (.yield l) #[] #[]] 158)
  have b0 := hx0.cell c0
  have b1 := hx0.cell c1
  have b2 := hx0.cell c2
  refine callsIn_of_wp_marks Tryz.func101 rfl trivial ?_ rfl
  simp only [Tryz.ntmps101, List.size_toArray, List.length_cons, List.length_nil, Nat.reduceAdd, Nat.reduceSub, Array.replicate_succ, Array.replicate_zero, List.push_toArray, List.append_toArray, List.nil_append, List.cons_append]
  gi_wp2_with (gi_at_call 102; refine (callsIn_wide.2 (HP.out _)).mono ?_; rintro e w1 ⟨cb', rfl, hx1, hcb, d0, d1, d2⟩)
  have hxw := hx0.trans hx1
  have hyb := hx1.cell (a := ⟨W.heap.size, 0, none⟩) (v := .func (.yield l) #[] #[]) (by go_simp)
  have hz1 : W.heap.size + 1 ≤ cb' := by simpa using hcb
  have hcl := lt_of_cell d0
  have e0 := hx1.cell b0
  have e1 := hx1.cell b1
  have e2 := hx1.cell b2
  have hw1 : W.heap.size + 1 ≤ w1.heap.size := by have := hx1.size; simpa using this
  have hI0 : PlanI c w0 W.heap.size cb l (.slice la c.loads.length lk) (.slice fa c.far.length fk) (J 0) w1 := ⟨hx.trans hxw, hyb, e0, e1, e2, (HJ.out 0).out' h0 hxw⟩
  have hxs := hx.size
  clear b0 b1 b2 hyb e0 e1 e2 hx1 hx0
  refine wpIn_range (gf := 124) (lb := #[.pointer (some ⟨cb', 0, none⟩)]) (by rfl) enters_parts1 (fun A x v => RowsOff (· < w1.heap.size + 2) A v x) (partsOf c) M ?hM ?hiter
    (fun k A => PlanI c w0 W.heap.size cb l (.slice la c.loads.length lk) (.slice fa c.far.length fk) (J k) A) (fun cd A => cd = .ret ∧ Jx A) ?hI ?hIx hI0
    (fun k x v a' A => RowsOff (· < w1.heap.size + 2) A v x ∧
      a' = { tmps := #[.func (.yield l) #[] #[], .pointer (some ⟨cb, 0, none⟩), .pointer (some ⟨W.heap.size, 0, none⟩), v, undef, undef, undef, undef, .agg #[.slice la c.loads.length lk, .int .i64 c.bears, .slice fa c.far.length fk], .func (.func 124) #[] #[.pointer (some ⟨cb', 0, none⟩)], v, undef, undef, undef, undef, undef, undef, undef, undef, undef, undef, undef, undef, undef, undef, undef, undef, undef, undef, undef, undef, undef, undef, undef, undef, undef, undef, undef, undef, undef, undef], defers := [] }) ?hAx ?hassign ?hbody ?hdone ?hstop
  case hM => intro k hk; have := (HM.out k hk).2; omega
  case hiter =>
    intro W1 h1 h2
    have := parts_iter c w0 W1 cb' (.slice la c.loads.length lk) (.slice fa c.far.length fk) (fun k => M k ∨ k = w1.heap.size + 1) hB hR
      (fun i hi => by
        rcases hi with hi | hi
        · have := HM.out i hi; omega
        · omega) (fun h => by
        rcases h with h | h
        · have := (HM.out _ h).2; omega
        · simp only at hcl; omega) ((hx.trans hxw).trans h1) (h1.cell d0) (h1.cell d1) (h1.cell d2)
    rw [← h2] at this
    exact this
  case hI => intro k A B h q; exact h.quiet ((HJ.out k).mono (by omega)) (by omega) q
  case hIx => rintro cd A B ⟨h1, h2⟩ q; exact ⟨h1, hJx A B h2 (q.mono (by omega))⟩
  case hAx => rintro k x v a' A B ⟨h1, h2⟩ q; exact ⟨h1.quiet q, h2⟩
  case hassign =>
    intro l' k x v A K hi hx hen hK
    have HK := Lib.hid hK
    clear hK
    gi_wp2
    exact HK.out _ _ (Ext.refl A) ⟨hen, rfl⟩
  case hdone =>
    intro D A hD hi hd
    have hj := (HJ.out _) _ _ hi.j (Quiet.putObj (.deferred none) hd (by omega) rfl)
    have hlen : (plansOf c).length = (partsOf c).length := by simp [plansOf]
    refine ⟨by simp, .inl ⟨_, _, rfl, run_takeDeferred hd, ?_⟩⟩
    rw [← hlen] at hj
    exact ⟨_, results_none rfl _ _ _, ⟨_, rfl⟩, .inl hj⟩
  case hstop =>
    rintro D cd A hD ⟨rfl, hj⟩ hd
    have hj2 := hJx _ _ hj (Quiet.putObj (.deferred none) hd (by omega) rfl)
    gi_wp2
    refine ⟨by simp, .inl ⟨_, _, rfl, run_takeDeferred hd, ?_⟩⟩
    exact ⟨_, results_none rfl _ _ _, ⟨_, rfl⟩, .inr hj2⟩
  case hbody =>
    rintro l' k x v a' A hl ⟨r, hr⟩ hi hx ⟨hrows, rfl⟩ hsz
    obtain ⟨va, vn, rfl, r1, r2, r3⟩ := hrows.rows.open
    have hgp := partsOf_good hB.n1 (List.mem_of_getElem? hx)
    have HG := Lib.hid hgp.each
    have hxl5 : x.length ≤ 5 := Nat.le_trans hgp.len hB.n2
    have e0 := hi.c0
    have e1 := hi.c1
    have e2 := hi.c2
    have ey := hi.y
    have hA1 : Ext A (A.alloc (.cells #[.slice none 0 0, .int .i64 0] 112)) := (Ext.refl A).alloc _
    have HR := Lib.hid r3
    have HX := Lib.hid hx
    clear r3 hx hrows
    gi_wp2
    gi_loopw [13] (fun i wr => ∃ (j : Nat) (tsv : Value) (vs : List Value), j ≤ x.length ∧ i = .int .i64 j ∧ PlanLoop c x A j tsv vs wr) (fun i _ => x.length - (intOf i).toNat)
    case atStart => exact ⟨0, .slice none 0 0, [], Nat.zero_le _, rfl, hA1, World.ownsRow_nil _ _ _ _, by go_simp, (by rw [show planLen c ((x.take 0).map (tourOf c)) = 0 from rfl]; go_simp), by go_simp, by go_simp, rfl, fun i u us hu _ => by simp at hu⟩
    case round =>
      obtain ⟨j, tsv, vs, hj, rfl, hp⟩ := hrel
      by_cases hlt : j < x.length
      · obtain ⟨vb, vo, hv, hs, rfl, hxj, hcj, hvj⟩ := HR.out j hlt
        have q0 := hp.ext.cell e0
        have q1 := hp.ext.cell e1
        have q2 := hp.ext.cell e2
        have qc := hp.ext.cell hcj
        have qp0 := hp.p0
        have qp1 := hp.p1
        have qf0 := hp.f0
        have qf1 := hp.f1
        obtain ⟨ha, hk, rfl, _⟩ := hvj.open
        have hgs := HG.out hs (List.mem_of_getElem? hxj.out)
        have hsh := shortest_ok (.agg #[.slice la c.loads.length lk, .int .i64 c.bears, .slice fa c.far.length fk]) _ c hs wr hB (hR.ext (hi.ext.trans hp.ext)) (hvj.ext hp.ext) (by have := hgs.len; have := hB.n2; omega) hgs.rng
          (fun y hy => by rw [loadOf_perm (ordersOf_perm hy)]; exact hgs.load)
        have HS := Lib.hid hsh
        have hpl := plan_range hB (x := x.take j) (fun l hl => HG.out l (List.mem_of_mem_take hl))
        have hplb : 0 ≤ planLen c ((x.take j).map (tourOf c)) ∧ planLen c ((x.take j).map (tourOf c)) ≤ 30000 := ⟨hpl.1, by have h2 := hpl.2; rw [List.length_take] at h2; omega⟩
        generalize hPL : planLen c ((x.take j).map (tourOf c)) = pl at qp1 hplb
        have HPL := Lib.hid hPL
        have htr := tour_range hB hgs
        have hbz0 : A.heap.size + 1 ≤ wr.heap.size := lt_of_cell qp0
        have hsz5 : j + 1 ≤ maxLen ∧ (j + 1) * 24 ≤ 140737488355328 := by unfold maxLen; omega
        have HSZ := Lib.hid hsz5
        have hP := Lib.hid hp
        clear hsh hvj hpl hPL hsz5 hp
        gi_wp2_with (first
          | (gi_at_call 65; refine (callsIn_wide.2 HS.out).mono ?_; rintro e w2 ⟨pa, n, kk, d, rfl, hx2, hv⟩; rw [(tour_good hgs).1] at hv; have hd1 : 0 ≤ d ∧ d ≤ 6000 := (by rw [hv.1]; exact htr); have HV := Lib.hid hv; clear hv; have p0' := (hx2.alloc (.cells #[.slice pa n kk, .int .i64 d] 107)).cell qp0; have hbz : A.heap.size + 1 ≤ (w2.alloc (.cells #[.slice pa n kk, .int .i64 d] 107)).heap.size := (by have := hx2.size; simp; omega))
          | (gi_at_builtin; refine wpListIn_push_at E_rows rfl _ _ rfl (A.heap.size + 1) rfl ((owns_ext hP.out.own hx2).alloc _) rfl (by simp) rfl (by simp [Value.oneCell']) ?_ HSZ.out.1 HSZ.out.2 hbz; intro g cap w5 hown5 hext5 hg5 hloc5; obtain ⟨⟨s0, s1, s2, s3, s4, s5⟩, hnext⟩ := plan_step hP.out HG.out hxj.out HV.out.1 hx2 HV.out.2.1 HV.out.2.2 hown5 hg5 (by rcases hloc5 with h | h; exact .inl h; exact .inr (by rw [h]; simp)); rw [HPL.out] at s1 hnext; have HN := Lib.hid hnext; clear hnext))
        exact ⟨⟨j + 1, _, _, by omega, by go_num, HN.out⟩, by simp [intOf]; omega⟩
      · have hje : j = x.length := by omega
        subst hje
        obtain ⟨m, hm⟩ : ∃ m, x.length = m + 1 := ⟨x.length - 1, by have := hgp.pos; omega⟩
        have hown := hp.own
        rw [hm] at hown
        obtain ⟨g, cap, rfl, hob, hgl⟩ := owns_head hown
        have hgb := owns_block hown g rfl
        have hvl : vs.length = m + 1 := by rw [hp.len, hm]
        have htk : x.take x.length = x := List.take_length
        have hsort := sortRows_any (x.map (tourOf c)) W.heap.size (A.heap.size + 1) g cap vs wr (by rw [hvl]; exact hown) (by rw [hvl, List.length_map, hm])
          (fun i u us hu hus => (hp.each i u us hu (by rw [htk]; exact hus)).less (fun b hb => by
            rcases hb with rfl | hb
            · exact .inl rfl
            · exact .inr (by omega))) (by omega) (by omega) hgl
        rw [hvl] at hsort
        have q1 := hp.p1
        rw [htk] at q1
        have hpl : planLen c (x.map (tourOf c)) = planLen c (planOf c x) := planLen_perm (sortL_perm _).symm
        rw [hpl] at q1
        have q0 := hp.p0
        have qy := hp.ext.cell ey
        have hyq : ∀ w3, Touch (· = g) wr w3 → RowsOff (· < W.heap.size) w3 (.slice (some ⟨g, 0, none⟩) (m + 1) cap) (sortL (x.map (tourOf c))) →
            Ext A w3 ∧ YieldAt Fence.wide 0 Tryz.prog l #[.agg #[.slice (some ⟨g, 0, none⟩) (m + 1) cap, .int .i64 (planLen c (planOf c x))]] w3 (YRes M (J (k + 1)) Jx w3) := fun w3 ht hro => by
          have hE3 : Ext A w3 := Touch.ext hp.ext ht (fun i hi => by omega)
          refine ⟨hE3, HY.out k (planOf c x) _ w3 ((HJ.out k).out' hi.j hE3) (by unfold plansOf; rw [List.getElem?_map, HX.out]; rfl) ⟨_, rfl, hro⟩ (by have := hE3.size; omega)⟩
        have HQ := Lib.hid hyq
        have HS := Lib.hid hsort
        have hne1 : ¬ A.heap.size = g := by omega
        have hne2 : ¬ W.heap.size = g := by omega
        have hfin : ∀ w3 w4 b, Ext A w3 → Touch M w3 w4 → (b = true → J (k + 1) w4) → (b = false → Jx w4) → Touch M A w4 ∧ (b = true → PlanI c w0 W.heap.size cb l (.slice la c.loads.length lk) (.slice fa c.far.length fk) (J (k + 1)) w4) ∧ (b = false → Jx w4) := fun w3 w4 b hE3 ht4 hj4 hx4 => by
          have hT : Touch M A w4 := (Touch.of_ext hE3).trans ht4
          refine ⟨hT, fun hb => ⟨Touch.ext hi.ext hT (fun i hi => (HM.out i hi).1), hT.cell ey (fun h => ?_), hT.cell e0 m3, hT.cell e1 m3, hT.cell e2 m3, hj4 hb⟩, hx4⟩
          have := (HM.out _ h).2; simp only at this; omega
        have HF := Lib.hid hfin
        clear hyq hsort hfin hp hown hpl
        gi_wp2_with (first
          | (gi_at_call 103; refine (callsIn_wide.2 HS.out).mono ?_; rintro e w3 ⟨rfl, ht3, hro3⟩; have s0 := ht3.cell q0 hne1; have s1 := ht3.cell q1 hne1; have sy := ht3.cell qy hne2; obtain ⟨hE3, fn, tmps, assign, body, hy, hRd⟩ := HQ.out w3 ht3 hro3)
          | (refine RoundIn.mono hRd ?_; rintro e w4 ⟨b, rfl, hpost⟩))
        all_goals (have hff := HF.out w3 w4 b hE3 hpost.1 hpost.2.1 hpost.2.2)
        · exact ⟨hff.1, rfl, hff.2.2 (by first | assumption | (cases b <;> simp_all))⟩
        · exact ⟨hff.1, hff.2.1 (by first | assumption | (cases b <;> simp_all))⟩
end Go.Proofs.YtbeophjdiddomaaGreatDoor

/- The iterator over what a house can have brought. -/
namespace Go.Proofs.YtbeophjdiddomaaGreatDoor
open Go.RowKit

/-! ### In plain Lean -/
def okB (r : Round) (button : Int) (h : House) (free : Bool) (x : Int × Int) : Bool := canB r button h x.1 x.2 && (free || countsB h x.1 x.2)
def rowOf (f : Nat) (n : Nat) : List (Int × Int) := (List.range n).map fun (j : Nat) => ((f : Int), (j : Int))
/-- What a house can have brought, in the order of the loops. -/
def waysOf (r : Round) (button : Int) (h : House) (free : Bool) : List (Int × Int) :=
  (List.range (h.cards + 1).toNat).flatMap fun f => (rowOf f r.per.toNat).filter (okB r button h free)
def wayCnt (r : Round) (button : Int) (h : House) (free : Bool) (f : Nat) : Nat := ((List.range f).flatMap fun f => (rowOf f r.per.toNat).filter (okB r button h free)).length
def rowCnt (r : Round) (button : Int) (h : House) (free : Bool) (f j : Nat) : Nat := ((rowOf f j).filter (okB r button h free)).length
theorem wayCnt_succ (r : Round) (button : Int) (h : House) (free : Bool) (f : Nat) : wayCnt r button h free (f + 1) = wayCnt r button h free f + rowCnt r button h free f r.per.toNat := by
  unfold wayCnt rowCnt; rw [List.range_succ]; simp
theorem rowOf_succ (f n : Nat) : rowOf f (n + 1) = rowOf f n ++ [((f : Int), (n : Int))] := by unfold rowOf; rw [List.range_succ]; simp
theorem rowCnt_succ (r : Round) (button : Int) (h : House) (free : Bool) (f j : Nat) : rowCnt r button h free f (j + 1) = rowCnt r button h free f j + (if okB r button h free (f, j) then 1 else 0) := by
  unfold rowCnt; rw [rowOf_succ, List.filter_append, List.length_append]
  congr 1
  by_cases h : okB r button h free (f, j) = true <;> simp [h]
theorem rowOf_split (f : Nat) {j n : Nat} (hj : j < n) : ∃ s, rowOf f n = rowOf f j ++ ((f : Int), (j : Int)) :: s := by
  induction n with
  | zero => omega
  | succ n ih =>
    rw [rowOf_succ]
    by_cases e : j = n
    · subst e; exact ⟨[], by simp⟩
    · obtain ⟨s, hs⟩ := ih (by omega)
      exact ⟨s ++ [((f : Int), (n : Int))], by rw [hs]; simp⟩
theorem ways_split {α : Type} (g : Nat → List α) {f n : Nat} (hf : f < n) : ∃ s, (List.range n).flatMap g = (List.range f).flatMap g ++ (g f ++ s) := by
  induction n with
  | zero => omega
  | succ n ih =>
    rw [List.range_succ, List.flatMap_append]
    by_cases e : f = n
    · subst e; exact ⟨[], by simp⟩
    · obtain ⟨s, hs⟩ := ih (by omega)
      exact ⟨s ++ g n, by rw [hs]; simp⟩
theorem ways_at {r : Round} {button : Int} {h : House} {free : Bool} {f j : Nat} (hf : f < (h.cards + 1).toNat) (hj : j < r.per.toNat) (hok : okB r button h free (f, j) = true) :
    (waysOf r button h free)[wayCnt r button h free f + rowCnt r button h free f j]? = some ((f : Int), (j : Int)) := by
  obtain ⟨s, hs⟩ := ways_split (fun f => (rowOf f r.per.toNat).filter (okB r button h free)) hf
  obtain ⟨s2, hs2⟩ := rowOf_split f hj
  unfold waysOf
  rw [hs, List.getElem?_append_right (by unfold wayCnt; omega)]
  have : wayCnt r button h free f + rowCnt r button h free f j - ((List.range f).flatMap fun f => (rowOf f r.per.toNat).filter (okB r button h free)).length = rowCnt r button h free f j := by unfold wayCnt; omega
  rw [this, hs2, List.filter_append, List.append_assoc, List.getElem?_append_right (by unfold rowCnt; omega)]
  unfold rowCnt
  rw [Nat.sub_self, List.filter_cons_of_pos hok]; rfl

/-! ### In memory -/
structure WayEnv (r : Round) (hv : Value) (button : Int) (h : House) (free : Bool) (hb wb fb : Nat) (A : World) : Prop where
  w0 : A.cell? ⟨wb, 0, none⟩ = some (.int .i64 r.per)
  w1 : A.cell? ⟨wb, 1, none⟩ = some (.int .i64 r.lo)
  w2 : A.cell? ⟨wb, 2, none⟩ = some (.int .i64 r.hi)
  w3 : A.cell? ⟨wb, 3, none⟩ = some (.int .i64 r.card)
  w4 : A.cell? ⟨wb, 4, none⟩ = some (.int .i64 r.slack)
  w5 : A.cell? ⟨wb, 5, none⟩ = some hv
  w6 : A.cell? ⟨wb, 6, none⟩ = some (.int .i64 r.all)
  w7 : A.cell? ⟨wb, 7, none⟩ = some (.int .i64 r.off)
  w8 : A.cell? ⟨wb, 8, none⟩ = some (.int .i64 button)
  h0 : A.cell? ⟨hb, 0, none⟩ = some (.int .i64 h.out)
  h1 : A.cell? ⟨hb, 1, none⟩ = some (.int .i64 h.cards)
  h2 : A.cell? ⟨hb, 2, none⟩ = some (.int .i64 h.full)
  h3 : A.cell? ⟨hb, 3, none⟩ = some (.int .i64 h.loose)
  h4 : A.cell? ⟨hb, 4, none⟩ = some (.int .i64 h.miss)
  h5 : A.cell? ⟨hb, 5, none⟩ = some (.int .i64 h.weighed)
  f : A.cell? ⟨fb, 0, none⟩ = some (.bool free)
theorem WayEnv.touch {r : Round} {hv : Value} {button : Int} {h : House} {free : Bool} {hb wb fb : Nat} {A B : World} {M : Nat → Prop} (e : WayEnv r hv button h free hb wb fb A) (k : Touch M A B) (m1 : ¬ M hb) (m2 : ¬ M wb) (m3 : ¬ M fb) : WayEnv r hv button h free hb wb fb B :=
  ⟨k.cell e.w0 m2, k.cell e.w1 m2, k.cell e.w2 m2, k.cell e.w3 m2, k.cell e.w4 m2, k.cell e.w5 m2, k.cell e.w6 m2, k.cell e.w7 m2, k.cell e.w8 m2, k.cell e.h0 m1, k.cell e.h1 m1, k.cell e.h2 m1, k.cell e.h3 m1, k.cell e.h4 m1, k.cell e.h5 m1, k.cell e.f m3⟩
theorem WayEnv.ext {r : Round} {hv : Value} {button : Int} {h : House} {free : Bool} {hb wb fb : Nat} {A B : World} (e : WayEnv r hv button h free hb wb fb A) (k : Ext A B) : WayEnv r hv button h free hb wb fb B :=
  e.touch (M := fun _ => False) (Touch.of_ext k) (fun h => h) (fun h => h) (fun h => h)

def WaysPost (r : Round) (hv : Value) (button : Int) (h : House) (free : Bool) (w : World) (e : Ending) (w' : World) : Prop :=
  ∃ hb wb fb, e = .returned (.func (.func 108) #[] #[.pointer (some ⟨hb, 0, none⟩), .pointer (some ⟨wb, 0, none⟩), .pointer (some ⟨fb, 0, none⟩)]) ∧ Ext w w' ∧ w.heap.size ≤ hb ∧ w.heap.size ≤ wb ∧ w.heap.size ≤ fb ∧ WayEnv r hv button h free hb wb fb w'
set_option maxHeartbeats 1000000 in
theorem ways_any (r : Round) (hv : Value) (button : Int) (h : House) (free : Bool) (w : World) (hh : ∃ a n c, hv = .slice a n c) :
    Calls Tryz.prog 81 #[weighedV r hv button, .agg h.cells.toArray, .bool free] w (WaysPost r hv button h free w) := by
  obtain ⟨a, n, c, rfl⟩ := hh
  unfold House.cells weighedV
  go_enter Tryz.func81, Tryz.ntmps81
  go_wp2
  go_ret
  refine ⟨_, _, _, rfl, (((Ext.refl w).alloc _).alloc _).alloc _, by omega, by omega, by omega, ?_⟩
  constructor <;> go_simp
theorem enters_ways1 : ∀ args w, (callFunc 108 args).run Tryz.prog w = .ok (.enter 108 args) w := enters_of Tryz.func108 (by kernel_rfl) rfl
end Go.Proofs.YtbeophjdiddomaaGreatDoor

/- The iterator over what a house can have brought: the walk. -/
namespace Go.Proofs.YtbeophjdiddomaaGreatDoor
open Go.RowKit

/-- An operation that is passed over, in the wide fence, be it a call or not. -/
theorem wpListIn_pass {F : Fence} {n : Nat} {P : Program} {ops : Array Oper} {Q : Exit → Act → World → Prop} {a : Act} {w : World} {rest : List Oper} {o : Oper} (hF : ∀ f, F.fn f) (hw : Region.wanted o (yielded ops a.tmps) = false) (h : wpListIn F n P ops Q rest (a.put o.dst undef) w) : wpListIn F n P ops Q (o :: rest) a w := by
  simp only [wpListIn, hw]
  exact ⟨fun f _ => hF f, h⟩

set_option maxRecDepth 100000 in
set_option maxHeartbeats 8000000 in
theorem ways_iter (r : Round) (hv : Value) (button : Int) (h : House) (free : Bool) (hb wb fb : Nat) (W : World) (M : Nat → Prop) (hr : RoundB r) (hw : r.lo ≤ button) (hw' : button ≤ r.hi) (hbad : badHouse h = false)
    (hvs : ∃ a n c, hv = .slice a n c) (hE : WayEnv r hv button h free hb wb fb W) (m1 : ¬ M hb) (m2 : ¬ M wb) (m3 : ¬ M fb) :
    Iter Tryz.prog 108 #[.pointer (some ⟨hb, 0, none⟩), .pointer (some ⟨wb, 0, none⟩), .pointer (some ⟨fb, 0, none⟩)] (fun _ x v => v = broughtV x.1 x.2) (waysOf r button h free) M W := by
  intro l J Jx hJ hJx hY h0
  obtain ⟨va, vn, vc, rfl⟩ := hvs
  have hbd := badHouse_iff.1 hbad
  have hp1 := hr.p1
  have hp2 := hr.p2
  have HR := Lib.hid hr
  have HBAD := Lib.hid hbad
  have HJ := Lib.hid hJ
  have HY := Lib.hid hY
  have HW := Lib.hid (And.intro hw hw')
  clear hJ hY hr hbad hw hw'
  have e1 := hE.h1
  have hcb : h.cards + 1 ≤ 61 := by omega
  have hca : 1 ≤ h.cards + 1 := by omega
  refine callsIn_of_wp Tryz.func108 rfl trivial ?_ rfl
  simp only [Tryz.ntmps108, List.size_toArray, List.length_cons, List.length_nil, Nat.reduceAdd, Nat.reduceSub, Array.replicate_succ, Array.replicate_zero, List.push_toArray, List.append_toArray, List.nil_append, List.cons_append]
  gi_wp2
  gi_loopw [11] (fun i wr => ∃ f : Nat, f ≤ (h.cards + 1).toNat ∧ i = .int .i64 f ∧ J (wayCnt r button h free f) wr ∧ WayEnv r (.slice va vn vc) button h free hb wb fb wr ∧ W.heap.size ≤ wr.heap.size) (fun i _ => (h.cards + 1).toNat - (intOf i).toNat)
  case atStart => exact ⟨0, Nat.zero_le _, rfl, h0, hE, Nat.le_refl _⟩
  case round =>
    obtain ⟨f, hf, rfl, hJw, hEw, hsz⟩ := hrel
    have d0 := hEw.w0
    by_cases hlt : f < (h.cards + 1).toNat
    · have x1 : decide ((f : Int) < h.cards + 1) = true := by simp; omega
      gi_wp2
      gi_loopw [17] (fun i wr' => ∃ j : Nat, j ≤ r.per.toNat ∧ i = .int .i64 j ∧ J (wayCnt r button h free f + rowCnt r button h free f j) wr' ∧ WayEnv r (.slice va vn vc) button h free hb wb fb wr' ∧ W.heap.size ≤ wr'.heap.size) (fun i _ => r.per.toNat - (intOf i).toNat)
      case atStart => exact ⟨0, Nat.zero_le _, rfl, by simpa [rowCnt, rowOf] using hJw, hEw, hsz⟩
      case round =>
        clear hJw hEw hsz d0
        obtain ⟨j, hj, rfl, hJw, hEw, hsz⟩ := hrel
        by_cases hjl : j < r.per.toNat
        · have x2 : decide ((j : Int) < r.per) = true := by simp; omega
          have hxa : Ext wr (wr.alloc (.cells #[.int .i64 f, .int .i64 j] 91)) := (Ext.refl _).alloc _
          have hEa := hEw.ext hxa
          have HCAN := Lib.hid (fun A => can_any r (.slice va vn vc) button h f j A HR.out HW.out.1 HW.out.2 HBAD.out (by omega) (by omega))
          have HCNT := Lib.hid (fun A => counts_any h f j A HBAD.out (by omega) (by omega) (by omega) (by omega))
          have HYY := Lib.hid (fun A (hx : Ext wr A) (hok : okB r button h free (f, j) = true) => HY.out _ (f, j) (.agg #[.int .i64 f, .int .i64 j]) A ((HJ.out _).out' hJw hx) (ways_at (by omega) (by omega) hok) rfl (by have := hx.size; omega))
          have HSU := Lib.hid (rowCnt_succ r button h free f j)
          obtain ⟨a0, a1, a2, a3, a4, a5, a6, a7, a8, i0, i1, i2, i3, i4, i5, af⟩ := hEa
          have HJW := Lib.hid hJw
          have HEW := Lib.hid hEw
          have HM := Lib.hid (And.intro m1 (And.intro m2 m3))
          clear hJw hEw hE m1 m2 m3
          cases hcn : canB r button h f j with
          | false =>
            rw [hcn] at HCAN
            have hok : okB r button h free (f, j) = false := by simp [okB, hcn]
            rw [hok] at HSU
            have hend : ∀ A, Ext wr A → J (wayCnt r button h free f + rowCnt r button h free f (j + 1)) A ∧ WayEnv r (.slice va vn vc) button h free hb wb fb A ∧ W.heap.size ≤ A.heap.size := fun A hx =>
              ⟨by rw [HSU.out]; exact (HJ.out _).out' HJW.out hx, HEW.out.ext hx, by have := hx.size; omega⟩
            have HEND := Lib.hid hend
            clear hend hcn hok
            gi_wp2_with (first | (refine wpListIn_pass (fun _ => trivial) rfl ?_) | (gi_at_call 46; refine (callsIn_wide.2 (HCAN.out _)).mono ?_; rintro e w1 ⟨rfl, hx1⟩))
            have he := HEND.out w1 (hxa.trans hx1)
            exact ⟨⟨j + 1, by omega, by go_num, he.1, he.2.1, he.2.2⟩, by simp [intOf]; omega⟩
          | true =>
            rw [hcn] at HCAN
            have hyend : ∀ A B (b : Bool), Ext wr A → okB r button h free (f, j) = true → YRes M (J (wayCnt r button h free f + rowCnt r button h free f j + 1)) Jx A (.returned (.bool b)) B →
                (b = true → J (wayCnt r button h free f + rowCnt r button h free f (j + 1)) B ∧ WayEnv r (.slice va vn vc) button h free hb wb fb B ∧ W.heap.size ≤ B.heap.size) ∧ (b = false → Jx B) := fun A B b hx hok ⟨b', he, ht, h1, h2⟩ => by
              cases he
              refine ⟨fun hb => ⟨?_, (HEW.out.ext hx).touch ht HM.out.1 HM.out.2.1 HM.out.2.2, by have := hx.size; have := ht.size; omega⟩, h2⟩
              rw [HSU.out, hok, ← Nat.add_assoc]; exact h1 hb
            have HYE := Lib.hid hyend
            clear hyend
            cases hfr : free with
            | true =>
              have hok : okB r button h free (f, j) = true := by simp [okB, hcn, hfr]
              have HOK := Lib.hid hok
              subst hfr
              clear hcn hok
              gi_wp2_with (first
                | (refine wpListIn_pass (fun _ => trivial) rfl ?_)
                | (gi_at_call 46; refine (callsIn_wide.2 (HCAN.out _)).mono ?_; rintro e w1 ⟨rfl, hx1⟩; have hxw := hxa.trans hx1; have hf1 := (HEW.out.ext hxw).f; have b0 := hx1.cell (a := ⟨wr.heap.size, 0, none⟩) (v := .int .i64 f) (by go_simp); have b1 := hx1.cell (a := ⟨wr.heap.size, 1, none⟩) (v := .int .i64 j) (by go_simp); obtain ⟨fn, tmps, assign, body, hy, hRd⟩ := HYY.out w1 hxw HOK.out; have hxy := hxw)
                | (refine RoundIn.mono hRd ?_; rintro e w4 ⟨b, rfl, hpost⟩))
              all_goals (have hpp := HYE.out _ w4 b hxy HOK.out ⟨b, rfl, hpost⟩)
              · refine bodyPost_ret (results_none rfl _ _ _) rfl ?_
                exact ⟨⟨_, rfl⟩, .inr (hpp.2 (by first | assumption | (cases b <;> simp_all)))⟩
              · have he := hpp.1 (by first | assumption | (cases b <;> simp_all))
                exact ⟨⟨j + 1, by omega, by go_num, he.1, he.2.1, he.2.2⟩, by simp [intOf]; omega⟩
            | false =>
              subst hfr
              cases hcs : countsB h f j with
              | false =>
                rw [hcs] at HCNT
                have hok : okB r button h false (f, j) = false := by simp [okB, hcs]
                rw [hok] at HSU
                have hend : ∀ A, Ext wr A → J (wayCnt r button h false f + rowCnt r button h false f (j + 1)) A ∧ WayEnv r (.slice va vn vc) button h false hb wb fb A ∧ W.heap.size ≤ A.heap.size := fun A hx =>
                  ⟨by rw [HSU.out]; exact (HJ.out _).out' HJW.out hx, HEW.out.ext hx, by have := hx.size; omega⟩
                have HEND := Lib.hid hend
                clear hend hcn hok hcs
                gi_wp2_with (first
                  | (refine wpListIn_pass (fun _ => trivial) rfl ?_)
                  | (gi_at_call 46; refine (callsIn_wide.2 (HCAN.out _)).mono ?_; rintro e w1 ⟨rfl, hx1⟩; have hxw := hxa.trans hx1; obtain ⟨_, _, _, _, _, _, _, _, _, p0, p1, p2, p3, p4, p5, pf⟩ := HEW.out.ext hxw; have b0 := hx1.cell (a := ⟨wr.heap.size, 0, none⟩) (v := .int .i64 f) (by go_simp); have b1 := hx1.cell (a := ⟨wr.heap.size, 1, none⟩) (v := .int .i64 j) (by go_simp))
                  | (gi_at_call 47; refine (callsIn_wide.2 (HCNT.out _)).mono ?_; rintro e w2 ⟨rfl, hx2⟩))
                have he := HEND.out w2 (hxw.trans hx2)
                exact ⟨⟨j + 1, by omega, by go_num, he.1, he.2.1, he.2.2⟩, by simp [intOf]; omega⟩
              | true =>
                rw [hcs] at HCNT
                have HOK := Lib.hid (show okB r button h false (f, j) = true by simp [okB, hcn, hcs])
                clear hcn hcs
                gi_wp2_with (first
                  | (refine wpListIn_pass (fun _ => trivial) rfl ?_)
                  | (gi_at_call 46; refine (callsIn_wide.2 (HCAN.out _)).mono ?_; rintro e w1 ⟨rfl, hx1⟩; have hxw := hxa.trans hx1; obtain ⟨_, _, _, _, _, _, _, _, _, p0, p1, p2, p3, p4, p5, pf⟩ := HEW.out.ext hxw; have b0 := hx1.cell (a := ⟨wr.heap.size, 0, none⟩) (v := .int .i64 f) (by go_simp); have b1 := hx1.cell (a := ⟨wr.heap.size, 1, none⟩) (v := .int .i64 j) (by go_simp))
                  | (gi_at_call 47; refine (callsIn_wide.2 (HCNT.out _)).mono ?_; rintro e w2 ⟨rfl, hx2⟩; have hxy := hxw.trans hx2; have c0 := hx2.cell b0; have c1 := hx2.cell b1; obtain ⟨fn, tmps, assign, body, hy, hRd⟩ := HYY.out w2 hxy HOK.out)
                  | (refine RoundIn.mono hRd ?_; rintro e w4 ⟨b, rfl, hpost⟩))
                all_goals (have hpp := HYE.out _ w4 b hxy HOK.out ⟨b, rfl, hpost⟩)
                · refine bodyPost_ret (results_none rfl _ _ _) rfl ?_
                  exact ⟨⟨_, rfl⟩, .inr (hpp.2 (by first | assumption | (cases b <;> simp_all)))⟩
                · have he := hpp.1 (by first | assumption | (cases b <;> simp_all))
                  exact ⟨⟨j + 1, by omega, by go_num, he.1, he.2.1, he.2.2⟩, by simp [intOf]; omega⟩
        · have x2 : decide ((j : Int) < r.per) = false := by simp; omega
          have hje : j = r.per.toNat := by omega
          have HN := Lib.hid (show J (wayCnt r button h free (f + 1)) wr by rw [wayCnt_succ, ← hje]; exact hJw)
          clear hje hJw
          gi_wp2
          exact ⟨⟨f + 1, by omega, by go_num, HN.out, hEw, hsz⟩, by simp [intOf]; omega⟩
    · have x1 : decide ((f : Int) < h.cards + 1) = false := by simp; omega
      have hfe : f = (h.cards + 1).toNat := by omega
      have hfin : J (waysOf r button h free).length wr := by
        have : (waysOf r button h free).length = wayCnt r button h free f := by rw [hfe]; rfl
        rw [this]; exact hJw
      clear hfe
      gi_wp2
      go_end0
      exact ⟨⟨_, rfl⟩, .inl hfin⟩
end Go.Proofs.YtbeophjdiddomaaGreatDoor
