/- The search of the deals: a node; what its rounds keep, and the calls of the search for the takes that are left. -/
import Derived.Test.YtiodjapdiflphaaGreatDoorDeals
import Derived.Test.YtiodjapdiflphaaGreatDoorState
import Derived.Deep.DeepCutAuto
namespace Go.Proofs.YtiodjapdiflphaaGreatDoor
open Go.RowKit
/-- What the node keeps: the search's variables, its own deal and what is used, and its two boxes. -/
structure DNode (b : Book) (rv lv tv sv uv : Value) (w0 : World) (bb lb tb yb cb ly : Nat) (t : Take) (now : DealS) (used : List Int) (O : Nat → Prop) (A : World) (J : (Nat → Prop) → World → Prop) (O1 : Nat → Prop) (W : World) : Prop where
 di : DI b rv lv tv w0 bb lb tb yb cb ly J O1 W
 en : DealIn O1 W now (.agg #[sv, .int .i64 now.2])
 us : IntsAt W uv used
 uo : OffV (fun i => O1 i ∨ W.heap.size ≤ i) uv
 tch : Touch O A W
 low : ∀ i, O1 i → O i ∨ A.heap.size + 2 ≤ i
 n0 : W.cell? ⟨A.heap.size, 0, none⟩ = some sv
 n1 : W.cell? ⟨A.heap.size, 1, none⟩ = some (.int .i64 now.2)
 k0 : W.cell? ⟨A.heap.size + 1, 0, none⟩ = some (.int .i64 t.river)
 k1 : W.cell? ⟨A.heap.size + 1, 1, none⟩ = some (.int .i64 t.low)
 k2 : W.cell? ⟨A.heap.size + 1, 2, none⟩ = some (.int .i64 t.high)
 k3 : W.cell? ⟨A.heap.size + 1, 3, none⟩ = some (.int .i64 t.many)
section
variable {b : Book} {l : List Licence} {all rest : List Take} {rv lv tv sv uv : Value} {w0 : World} {bb lb tb yb cb ly B0 k n : Nat} {t : Take} {now : DealS} {used : List Int} {O O1 O2 : Nat → Prop} {A W W' W9 : World} {J J' : (Nat → Prop) → World → Prop} {JJ : Nat → (Nat → Prop) → World → Prop} {Jx : World → Prop}
theorem DNode.ext (h : DNode b rv lv tv sv uv w0 bb lb tb yb cb ly t now used O A J O1 W) (hJ : ∀ O, Stable n (J O)) (q : Ext W W') : DNode b rv lv tv sv uv w0 bb lb tb yb cb ly t now used O A J O1 W' :=
 ⟨h.di.ext' hJ q, h.en.out (Touch.of_ext q) (fun _ hi => .inl hi), IntsAt.ext h.us q, h.uo.less (fun _ hi => hi.imp id (fun hi => Nat.le_trans q.size hi)), h.tch.trans (Touch.of_ext q), h.low, q.cell h.n0, q.cell h.n1, q.cell h.k0, q.cell h.k1, q.cell h.k2, q.cell h.k3⟩
theorem DNode.post (h : DNode b rv lv tv sv uv w0 bb lb tb yb cb ly t now used O A J O1 W) (hO : ∀ i, O i → i < A.heap.size) (q : Touch O1 W W') (ho : ∀ i, O2 i → (O1 i ∨ W.heap.size ≤ i) ∧ i < W'.heap.size) (hj : J' O2 W') : DNode b rv lv tv sv uv w0 bb lb tb yb cb ly t now used O A J' O2 W' := by
 have hs := q.size
 have h3 := lt_of_cell h.k3
 simp only at h3
 have nn : ∀ j, A.heap.size ≤ j → j < A.heap.size + 2 → ¬ O1 j := fun j h1 h2 h4 => by
  rcases h.low j h4 with h5 | h5
  ·have := hO j h5; omega
  ·omega
 have n0 := nn A.heap.size (Nat.le_refl _) (by omega)
 have n1 := nn (A.heap.size + 1) (by omega) (by omega)
 refine ⟨h.di.post q ho hj, h.en.out q (fun i hi => (ho i hi).1), RowAt.touch h.us (q.mono (fun i hi => .inl hi)) h.uo, h.uo.less (fun i hi => ?_), Touch.of_new (N := fun i => O i ∨ A.heap.size + 2 ≤ i) ((h.tch.mono (fun i hi => .inl hi)).trans (q.mono h.low)) (fun i hi hl => hi.elim id (fun h => by omega)), fun i hi => ?_,
  q.cell h.n0 n0, q.cell h.n1 n0, q.cell h.k0 n1, q.cell h.k1 n1, q.cell h.k2 n1, q.cell h.k3 n1⟩
 ·rcases hi with hi | hi
  ·exact (ho i hi).1
  ·exact .inr (by omega)
 ·rcases (ho i hi).1 with h4 | h4
  ·exact h.low i h4
  ·exact .inr (by omega)
theorem DNode.step (h : DNode b rv lv tv sv uv w0 bb lb tb yb cb ly t now used O A (JJ n) O1 W) (hn : ∀ O, JJ n O = J' O) : DNode b rv lv tv sv uv w0 bb lb tb yb cb ly t now used O A J' O1 W := by
 have : JJ n = J' := funext hn
 rw [← this]; exact h
/-- A deal whose list the call has made. -/
theorem DealIn.of_owns {base : Nat} {e : TypeId} {v : Value} {m : Nat} {xs : List Int} {r : Int} (h : W9.ownsRow base e 1 v m (xs.map (.int .i64))) (hm : m = xs.length) (hO : ∀ i, O1 i → i < base) : DealIn O1 W9 (xs, r) (.agg #[v, .int .i64 r]) := by
 subst hm
 refine ⟨v, rfl, RowAt.of_owns h, fun a n c hv hM => ?_⟩
 have h1 : v.ownBlock = some a.block := by rw [hv]; rfl
 have h2 := owns_block h a.block h1
 have h3 := (World.ownsRow.lt h a.block h1).2
 rcases hM with hM | hM
 ·have := hO _ hM; omega
 ·omega
theorem IntsAt.off_owns {base : Nat} {e : TypeId} {v : Value} {m : Nat} {xs : List Value} (h : W9.ownsRow base e 1 v m xs) (hO : ∀ i, O1 i → i < base) : OffV (fun i => O1 i ∨ W9.heap.size ≤ i) v := by
 intro a n c hv hM
 have h1 : v.ownBlock = some a.block := by rw [hv]; rfl
 have h2 := owns_block h a.block h1
 have h3 := (World.ownsRow.lt h a.block h1).2
 rcases hM with hM | hM
 ·have := hO _ hM; omega
 ·omega
theorem drop_next {α : Type} {all rest : List α} {t : α} {n : Nat} (h : all.drop n = t :: rest) : all.drop (n + 1) = rest ∧ n + 1 ≤ all.length ∧ all[n]? = some t := by
 have hl : n < all.length := by
  rcases Nat.lt_or_ge n all.length with h1 | h1
  ·exact h1
  ·rw [List.drop_eq_nil_of_le h1] at h; cases h
 rw [List.drop_eq_getElem_cons hl] at h
 injection h with h1 h2
 exact ⟨h2, hl, by rw [List.getElem?_eq_getElem hl, h1]⟩
/-- The search where the take has no licence. -/
theorem deal_rec0 (ih : DealCall b l all rv lv tv w0 bb lb tb yb cb ly B0 Jx rest) (hJ : ∀ k O, Stable B0 (JJ k O)) (hr : all.drop now.1.length = t :: rest) (hu : used.length = l.length) (hb : 0 ≤ now.2 ∧ now.2 ≤ 100 * now.1.length) (hub : ∀ u, u ∈ used → 0 ≤ u ∧ u ≤ 100 * now.1.length) (hm : 0 ≤ t.many ∧ t.many ≤ 100)
  (hAB : B0 ≤ A.heap.size) (h0B : w0.heap.size ≤ B0)
  (hY : ∀ (i : Nat) (z : DealS) (v : Value) (A1 : World) (O1 : Nat → Prop), (dealsFrom b l (t :: rest) now used)[i]? = some z → JJ (k + i) O1 A1 → DealIn O1 A1 z v → B0 ≤ A1.heap.size → (∀ i, O1 i → i < A1.heap.size) → YieldAt Fence.wide 0 Tryz.prog ly #[v] A1 (YRes O1 (JJ (k + i + 1)) Jx A1))
  (hN : DNode b rv lv tv sv uv w0 bb lb tb yb cb ly t now used O A (JJ k) O1 W) (q : Ext W W9) {nv9 : Value} (h9 : DealIn O1 W9 (now.1 ++ [-1], now.2 + t.many) nv9) :
  CallsIn Fence.wide 0 Tryz.prog 105 #[nv9, uv, .pointer (some ⟨tb, 0, none⟩), .pointer (some ⟨yb, 0, none⟩), .pointer (some ⟨cb, 0, none⟩), .pointer (some ⟨lb, 0, none⟩), .pointer (some ⟨bb, 0, none⟩)] W9 (YRes O1 (JJ (k + dealCnt b l t rest now used 0)) Jx W9) := by
 have h2 := hN.ext (hJ k) q
 obtain ⟨d1, d2, d3⟩ := drop_next hr
 have hs : A.heap.size ≤ W9.heap.size := h2.tch.size
 have hlen : (now.1 ++ [(-1 : Int)]).length = now.1.length + 1 := by simp
 rw [show dealCnt b l t rest now used 0 = (dealsFrom b l rest (now.1 ++ [-1], now.2 + t.many) used).length by unfold dealCnt; simp]
 refine ih k JJ O1 (now.1 ++ [-1], now.2 + t.many) used nv9 uv W9 hJ (by rw [hlen]; exact d1) (by rw [hlen]; exact d2) hu (by rw [hlen]; simp only []; omega) (fun u hu' => by rw [hlen]; have := hub u hu'; omega) h9 h2.us h2.uo h2.di (by omega) h0B ?_
 intro i z v A1 O3 hz hj hd hsz ho
 exact hY i z v A1 O3 (deal_none hz) hj hd hsz ho
/-- The search where the take has licence n. -/
theorem deal_recn (ih : DealCall b l all rv lv tv w0 bb lb tb yb cb ly B0 Jx rest) (hJ : ∀ k O, Stable B0 (JJ k O)) (hr : all.drop now.1.length = t :: rest) (hu : used.length = l.length) (hb : 0 ≤ now.2 ∧ now.2 ≤ 100 * now.1.length) (hub : ∀ u, u ∈ used → 0 ≤ u ∧ u ≤ 100 * now.1.length) (hm : 0 ≤ t.many ∧ t.many ≤ 100)
  (hAB : B0 ≤ A.heap.size) (h0B : w0.heap.size ≤ B0)
  (hY : ∀ (i : Nat) (z : DealS) (v : Value) (A1 : World) (O1 : Nat → Prop), (dealsFrom b l (t :: rest) now used)[i]? = some z → JJ (k + i) O1 A1 → DealIn O1 A1 z v → B0 ≤ A1.heap.size → (∀ i, O1 i → i < A1.heap.size) → YieldAt Fence.wide 0 Tryz.prog ly #[v] A1 (YRes O1 (JJ (k + i + 1)) Jx A1))
  (hn : n < l.length) (hat : dealAt b l t used n = true)
  (hN : DNode b rv lv tv sv uv w0 bb lb tb yb cb ly t now used O A (JJ (k + dealCnt b l t rest now used n)) O1 W) (q : Ext W W9) {nv9 uv9 : Value} (h9 : DealIn O1 W9 (now.1 ++ [(n : Int)], now.2) nv9) (hu9 : IntsAt W9 uv9 (used.set n (used.getD n 0 + t.many))) (ho9 : OffV (fun i => O1 i ∨ W9.heap.size ≤ i) uv9) :
  CallsIn Fence.wide 0 Tryz.prog 105 #[nv9, uv9, .pointer (some ⟨tb, 0, none⟩), .pointer (some ⟨yb, 0, none⟩), .pointer (some ⟨cb, 0, none⟩), .pointer (some ⟨lb, 0, none⟩), .pointer (some ⟨bb, 0, none⟩)] W9 (YRes O1 (JJ (k + dealCnt b l t rest now used (n + 1))) Jx W9) := by
 have h2 := hN.ext (hJ _) q
 obtain ⟨d1, d2, d3⟩ := drop_next hr
 have hs : A.heap.size ≤ W9.heap.size := h2.tch.size
 have hlen : (now.1 ++ [(n : Int)]).length = now.1.length + 1 := by simp
 have hon : dealOn b l t rest now used n = dealsFrom b l rest (now.1 ++ [(n : Int)], now.2) (used.set n (used.getD n 0 + t.many)) := by unfold dealOn; rw [if_pos hat]
 rw [dealCnt_succ, hon, ← Nat.add_assoc]
 have hun : 0 ≤ used.getD n 0 ∧ used.getD n 0 ≤ 100 * now.1.length := by
  rw [List.getD_eq_getElem?_getD, List.getElem?_eq_getElem (by omega)]
  exact hub _ (List.getElem_mem (by omega))
 refine ih _ JJ O1 (now.1 ++ [(n : Int)], now.2) _ nv9 uv9 W9 hJ (by rw [hlen]; exact d1) (by rw [hlen]; exact d2) (by rw [List.length_set]; exact hu) (by rw [hlen]; simp only []; omega) (fun u hu' => ?_) h9 hu9 ho9 h2.di (by omega) h0B ?_
 ·rw [hlen]
  rcases List.mem_or_eq_of_mem_set hu' with h | h
  ·have := hub u h; omega
  ·omega
 ·intro i z v A1 O3 hz hj hd hsz ho
  have h5 := hY (dealCnt b l t rest now used n + i) z v A1 O3 (deal_some hn (by rw [hon]; exact hz)) (by rw [← Nat.add_assoc]; exact hj) hd hsz ho
  rw [← Nat.add_assoc] at h5
  exact h5
end
end Go.Proofs.YtiodjapdiflphaaGreatDoor
/- The search of the deals: the walk of a node. -/
namespace Go.Proofs.YtiodjapdiflphaaGreatDoor
open Go.RowKit
theorem getD_at {l : List Int} {n : Nat} {x : Int} (h : l[n]? = some x) : l.getD n 0 = x := by rw [List.getD_eq_getElem?_getD, h]; rfl
theorem licAt_at {l : List Licence} {n : Nat} {x : Licence} (h : l[n]? = some x) : licAt l n = x := by unfold licAt; rw [List.getD_eq_getElem?_getD, h]; rfl
theorem dealOn_no {b : Book} {l : List Licence} {t : Take} {ts : List Take} {now : DealS} {used : List Int} {n : Nat} (h : dealAt b l t used n = false) : dealCnt b l t ts now used (n + 1) = dealCnt b l t ts now used n := by
 rw [dealCnt_succ]; unfold dealOn; rw [h]; rfl
theorem ints_one (xs : List Int) : ∀ u, u ∈ xs.map (Value.int .i64) → u.oneCell' = true := by
 intro u hu
 obtain ⟨x, _, rfl⟩ := List.mem_map.1 hu
 rfl
theorem owns_some {W : World} {base : Nat} {e : TypeId} {size : Nat} {v : Value} {n i : Nat} {xs : List Value} (h : W.ownsRow base e size v n xs) (hi : i < n) : ∃ g cap, v = .slice (some ⟨g, 0, none⟩) n cap ∧ base ≤ g ∧ g < W.heap.size := by
 obtain ⟨k, rfl⟩ : ∃ k, n = k + 1 := ⟨n - 1, by omega⟩
 obtain ⟨g, cap, rfl, h1, h2⟩ := owns_head h
 exact ⟨g, cap, rfl, owns_block h g h1, h2⟩
theorem DNode.ints {b : Book} {rv lv tv sv uv : Value} {w0 : World} {bb lb tb yb cb ly : Nat} {t : Take} {now : DealS} {used : List Int} {O O1 : Nat → Prop} {A W : World} {J : (Nat → Prop) → World → Prop} (h : DNode b rv lv tv sv uv w0 bb lb tb yb cb ly t now used O A J O1 W) : IntsAt W sv now.1 := by
 obtain ⟨_, e, h1, _⟩ := h.en
 cases e; exact h1
set_option maxRecDepth 100000 in
set_option maxHeartbeats 16000000 in
theorem deal_node (b : Book) (l : List Licence) (all rest : List Take) (rv lv tv : Value) (w0 : World) (bb lb tb yb cb ly B0 : Nat) (Jx : World → Prop) (r lo hi : Nat) (m : Int) (hB : BookB b) (hrv : RiversAt w0 rv b.rivers) (hlv : RowOf licC w0 lv l) (htv : RowOf takC w0 tv all) (hlB : ∀ x, x ∈ l → LicB b x)
  (h1 : r < b.rivers.length) (h2 : (hi : Int) < b.years) (h3 : lo ≤ hi) (hm : 0 ≤ m ∧ m ≤ 100) (hal : all.length ≤ 6) (hll : l.length ≤ 4)
  (ih : DealCall b l all rv lv tv w0 bb lb tb yb cb ly B0 Jx rest) : DealCall b l all rv lv tv w0 bb lb tb yb cb ly B0 Jx ((⟨(r : Int), (lo : Int), (hi : Int), m⟩ : Take) :: rest) := by
 intro k J O now used nv uv A hJ hdr hlen hul hb hub hx hus huo hT hAB h0B hY
 obtain ⟨d1, d2, d3⟩ := drop_next hdr
 have hx' := hx
 obtain ⟨sv, rfl, s1, s2⟩ := hx'
 obtain ⟨oa, oc, rfl, o1, o2, _⟩ := s1.open
 obtain ⟨ua, uc, rfl, u1, u2, u3⟩ : ∃ ua uc, uv = .slice ua l.length uc ∧ l.length ≤ uc ∧ uc ≤ 9223372036854775807 ∧ ∀ i, i < l.length → ∃ b o x, ua = some ⟨b, o, none⟩ ∧ Hid (used[i]? = some x) ∧ True := by
  obtain ⟨a, c, e, e1, e2, e3⟩ := hus.open
  exact ⟨a, c, by rw [← hul]; exact e, by rw [← hul]; exact e1, e2, fun i hi => by obtain ⟨b, o, x, f1, f2, _⟩ := e3 i (by rw [hul]; exact hi); exact ⟨b, o, x, f1, f2, trivial⟩⟩
 obtain ⟨ra, rc, rfl, r1, r2, _⟩ := hrv.open
 obtain ⟨la, lc, rfl, l1, l2, l3⟩ := RowOf.open4 (f0 := fun (x : Licence) => Value.int .i64 x.river) (f1 := fun (x : Licence) => Value.int .i64 x.first) (f2 := fun (x : Licence) => Value.int .i64 x.last) (f3 := fun (x : Licence) => Value.int .i64 x.quota) (fun _ => rfl) hlv
 obtain ⟨ka, kc, rfl, k1, k2, k3⟩ := RowOf.open4 (f0 := fun (x : Take) => Value.int .i64 x.river) (f1 := fun (x : Take) => Value.int .i64 x.low) (f2 := fun (x : Take) => Value.int .i64 x.high) (f3 := fun (x : Take) => Value.int .i64 x.many) (fun _ => rfl) htv
 obtain ⟨kb, ko, x0, rfl, hx0, c0, c1, c2, c3⟩ := k3 now.1.length d2
 have hx0' := hx0.out
 rw [d3] at hx0'
 cases hx0'
 simp only at c0 c1 c2 c3
 have hxe0 := hT.ext
 have hxe1 : Ext A (A.alloc (.cells #[.slice oa now.1.length oc, .int .i64 now.2] 131)) := (Ext.refl A).alloc _
 have e0 := hxe1.cell (hxe0.cell c0)
 have e1 := hxe1.cell (hxe0.cell c1)
 have e2 := hxe1.cell (hxe0.cell c2)
 have e3 := hxe1.cell (hxe0.cell c3)
 have et := hxe1.cell hT.t0
 have i1 : (0 : Int) ≤ (now.1.length : Int) := by omega
 have i2 : (now.1.length : Int) < (all.length : Int) := by omega
 have t1 : (now.1.length == all.length) = false := by simp; omega
 have t2 : ((now.1.length : Int) == (all.length : Int)) = false := by simp; omega
 obtain ⟨Aw, hAw⟩ : ∃ Aw, Aw = ((A.alloc (.cells #[.slice oa now.1.length oc, .int .i64 now.2] 131)).alloc (.cells #[.int .i64 r, .int .i64 lo, .int .i64 hi, .int .i64 m] 139)) := ⟨_, rfl⟩
 have hxa : Ext A Aw := by rw [hAw]; exact ((Ext.refl A).alloc _).alloc _
 have hza : A.heap.size + 2 ≤ Aw.heap.size := by rw [hAw]; simp
 have hN0 : DNode b (.slice ra b.rivers.length rc) (.slice la l.length lc) (.slice (some ⟨kb, ko, none⟩) all.length kc) (.slice oa now.1.length oc) (.slice ua l.length uc) w0 bb lb tb yb cb ly (⟨(r : Int), (lo : Int), (hi : Int), m⟩ : Take) now used O A (J k) O Aw := ⟨hT.ext' (hJ k) hxa, hx.out (Touch.of_ext hxa) (fun _ hi => .inl hi), IntsAt.ext hus hxa, huo.less (fun _ hi => hi.imp id (fun hi => Nat.le_trans hxa.size hi)), Touch.of_ext hxa, fun i hi => .inl hi,
  by rw [hAw]; go_simp, by rw [hAw]; go_simp, by rw [hAw]; go_simp, by rw [hAw]; go_simp, by rw [hAw]; go_simp, by rw [hAw]; go_simp⟩
 have HOA := Lib.hid hT.olt
 have HREC0 := Lib.hid (fun (W9 : World) (nv9 : Value) (q : Ext Aw W9) (h9 : DealIn O W9 (now.1 ++ [-1], now.2 + m) nv9) => deal_rec0 ih hJ hdr hul hb hub hm hAB h0B hY hN0 q h9)
 have HRECN := Lib.hid (fun (n : Nat) (O1 : Nat → Prop) (W W9 : World) (nv9 uv9 : Value) (hn : n < l.length) (hat : dealAt b l (⟨(r : Int), (lo : Int), (hi : Int), m⟩ : Take) used n = true) (hN : DNode b (.slice ra b.rivers.length rc) (.slice la l.length lc) (.slice (some ⟨kb, ko, none⟩) all.length kc) (.slice oa now.1.length oc) (.slice ua l.length uc) w0 bb lb tb yb cb ly (⟨(r : Int), (lo : Int), (hi : Int), m⟩ : Take) now used O A (J (k + dealCnt b l (⟨(r : Int), (lo : Int), (hi : Int), m⟩ : Take) rest now used n)) O1 W) (q : Ext W W9) (h9 : DealIn O1 W9 (now.1 ++ [(n : Int)], now.2) nv9) (hu9 : IntsAt W9 uv9 (used.set n (used.getD n 0 + m))) (ho9 : OffV (fun i => O1 i ∨ W9.heap.size ≤ i) uv9) =>
  deal_recn ih hJ hdr hul hb hub hm hAB h0B hY hn hat hN q h9 hu9 ho9)
 have HJ := Lib.hid hJ
 have HC := Lib.hid (fun w1 (h : IntsAt w1 (.slice oa now.1.length oc) now.1) => clone_ints (.slice oa now.1.length oc) now.1.length (now.1.map (.int .i64)) w1 h (by simp) (ints_one _) (by omega))
 have HCU := Lib.hid (fun w1 (h : IntsAt w1 (.slice ua l.length uc) used) => clone_ints (.slice ua l.length uc) l.length (used.map (.int .i64)) w1 (by rw [← hul]; have h5 := h; unfold IntsAt at h5; rw [← hul] at h5; exact h5) (by simp [hul]) (ints_one _) (by omega))
 have HSZ := Lib.hid (show now.1.length + 1 ≤ maxLen ∧ (now.1.length + 1) * 8 ≤ 140737488355328 by unfold maxLen; omega)
 have HN0 := Lib.hid hN0
 have HALL := Lib.hid (dealCnt_all b l (⟨(r : Int), (lo : Int), (hi : Int), m⟩ : Take) rest now used)
 have HUL := Lib.hid hul
 have HUB := Lib.hid hub
 have HR := Lib.hid hrv
 have HLV := Lib.hid l3
 have HB := Lib.hid hB
 have HLB := Lib.hid hlB
 have hmix : Tryz.prog.follows .mixedOrders = true := by kernel_rfl
 have hb1 := hb.1
 have hb2 := hb.2
 have hm1 := hm.1
 have hm2 := hm.2
 have HS5 := Lib.hid (fun W (h : Ext Aw W) => (⟨h.cell hN0.di.c, h.cell hN0.n0, h.cell hN0.n1, h.cell hN0.k3⟩ : (fun w' => w'.cell? ⟨cb, 0, none⟩ = some (.func (.func 105) #[] #[.pointer (some ⟨tb, 0, none⟩), .pointer (some ⟨yb, 0, none⟩), .pointer (some ⟨cb, 0, none⟩), .pointer (some ⟨lb, 0, none⟩), .pointer (some ⟨bb, 0, none⟩)]) ∧ w'.cell? ⟨A.heap.size, 0, none⟩ = some (.slice oa now.1.length oc) ∧ w'.cell? ⟨A.heap.size, 1, none⟩ = some (.int .i64 now.2) ∧ w'.cell? ⟨A.heap.size + 1, 3, none⟩ = some (.int .i64 m)) W))
 clear hY hJ hx hus huo hT ih hdr hub hul u3 hrv hlv htv l3 k3 c0 c1 c2 c3 hx0 hxe0 hxe1 d1 d3 s1 s2 hN0 hB hlB hb hm hlen
 refine callsIn_wide.2 ?_
 go_enter Tryz.func105, Tryz.ntmps105
 go_upto_region 5 with fail
 rw [← hAw]
 clear hAw e0 e1 e2 e3 et t1 t2 i1 i2
 go_cut [42] from 28 to 42 (fun s42 W => ∃ (c : Bool) (O1 : Nat → Prop), s42 = .bool c ∧ (c = false → DNode b (.slice ra b.rivers.length rc) (.slice la l.length lc) (.slice (some ⟨kb, ko, none⟩) all.length kc) (.slice oa now.1.length oc) (.slice ua l.length uc) w0 bb lb tb yb cb ly (⟨(r : Int), (lo : Int), (hi : Int), m⟩ : Take) now used O A (J (k + dealCnt b l (⟨(r : Int), (lo : Int), (hi : Int), m⟩ : Take) rest now used 0)) O1 W) ∧ (c = true → Touch O Aw W ∧ (∀ i, O1 i → (O i ∨ Aw.heap.size ≤ i) ∧ i < W.heap.size) ∧ Jx W))
 case first =>
  refine wp_region_held_drew (S := (fun w' => w'.cell? ⟨cb, 0, none⟩ = some (.func (.func 105) #[] #[.pointer (some ⟨tb, 0, none⟩), .pointer (some ⟨yb, 0, none⟩), .pointer (some ⟨cb, 0, none⟩), .pointer (some ⟨lb, 0, none⟩), .pointer (some ⟨bb, 0, none⟩)]) ∧ w'.cell? ⟨A.heap.size, 0, none⟩ = some (.slice oa now.1.length oc) ∧ w'.cell? ⟨A.heap.size, 1, none⟩ = some (.int .i64 now.2) ∧ w'.cell? ⟨A.heap.size + 1, 3, none⟩ = some (.int .i64 m))) (by kernel_rfl) ?_ (fun hHeld => ?_)
  ·exact HS5.out _ (by repeat (first | exact hxe | exact Ext.refl _ | apply Ext.drew | apply Ext.alloc))
  refine hTk (i := 0) (d := some 28) (v := ?_) (fun o ho => ?_) hHeld ?_
  rotate_left
  ·simp only [zA, zB, zD] at ho
   subst ho
   refine ⟨by rfl, fun w hSw => ?_⟩
   (try dsimp only at hSw)
   go_simp
   try with_reducible rfl
  try simp only [Act.put, yA, yB, yC]
  refine hTk (i := 1) (d := some 29) (v := ?_) (fun o ho => ?_) hHeld ?_
  rotate_left
  ·simp only [zA, zB, zC, zD] at ho
   subst ho
   refine ⟨by rfl, fun w hSw => ?_⟩
   (try dsimp only at hSw)
   go_simp
   try with_reducible rfl
  try simp only [Act.put, yA, yB, yC]
  refine hTk (i := 2) (d := some 30) (v := ?_) (fun o ho => ?_) hHeld ?_
  rotate_left
  ·simp only [zA, zB, zC, zD] at ho
   subst ho
   refine ⟨by rfl, fun w hSw => ?_⟩
   (try dsimp only at hSw)
   go_simp
   try with_reducible rfl
  try simp only [Act.put, yA, yB, yC]
  refine hTk (i := 6) (d := some 34) (v := ?_) (fun o ho => ?_) hHeld ?_
  rotate_left
  ·simp only [zA, zB, zC, zD] at ho
   subst ho
   refine ⟨by rfl, fun w hSw => ?_⟩
   (try dsimp only at hSw)
   go_simp
   try with_reducible rfl
  try simp only [Act.put, yA, yB, yC]
  refine hTk (i := 7) (d := some 35) (v := ?_) (fun o ho => ?_) hHeld ?_
  rotate_left
  ·simp only [zA, zB, zC, zD] at ho
   subst ho
   refine ⟨by rfl, fun w hSw => ?_⟩
   (try dsimp only at hSw)
   go_simp
   try with_reducible rfl
  try simp only [Act.put, yA, yB, yC]
  refine hTk (i := 8) (d := some 36) (v := ?_) (fun o ho => ?_) hHeld ?_
  rotate_left
  ·simp only [zA, zB, zC, zD] at ho
   subst ho
   refine ⟨by rfl, fun w hSw => ?_⟩
   (try dsimp only at hSw)
   go_simp
   try with_reducible rfl
  try simp only [Act.put, yA, yB, yC]
  refine hTk (i := 9) (d := some 37) (v := ?_) (fun o ho => ?_) hHeld ?_
  rotate_left
  ·simp only [zA, zB, zC, zD] at ho
   subst ho
   refine ⟨by rfl, fun w hSw => ?_⟩
   (try dsimp only at hSw)
   go_simp
   try with_reducible rfl
  try simp only [Act.put, yA, yB, yC]
  refine hTk (i := 10) (d := some 38) (v := ?_) (fun o ho => ?_) hHeld ?_
  rotate_left
  ·simp only [zA, zB, zC, zD] at ho
   subst ho
   refine ⟨by rfl, fun w hSw => ?_⟩
   (try dsimp only at hSw)
   go_simp
   try with_reducible rfl
  try simp only [Act.put, yA, yB, yC]
  refine hTk (i := 12) (d := some 40) (v := ?_) (fun o ho => ?_) hHeld ?_
  rotate_left
  ·simp only [zA, zB, zC, zD] at ho
   subst ho
   refine ⟨by rfl, fun w hSw => ?_⟩
   (try dsimp only at hSw)
   go_simp
   try with_reducible rfl
  try simp only [Act.put, yA, yB, yC]
  refine wpAnyH_ready (rs := [3, 4]) (by kernel_rfl) (by simp) ?_
  refine held_step (i := 3) (by kernel_rfl) (fun o ho K' hK => ?_) ?_
  ·simp only [zA, zB, zC, zD] at ho
   subst ho
   go_simp
   go_at_call 106
   refine (HC.out Aw.drew (IntsAt.ext HN0.out.ints (by repeat (first | exact Ext.refl _ | apply Ext.drew | apply Ext.alloc)))).mono ?_
   rintro e w1 ⟨cv, rfl, own1, hx1⟩
   have hxe : Ext Aw w1 := (by repeat (first | exact Ext.refl _ | apply Ext.drew | apply Ext.alloc) : Ext Aw Aw.drew).trans hx1
   have hlow : Aw.heap.size ≤ Aw.drew.heap.size := (by repeat (first | exact Ext.refl _ | apply Ext.drew | apply Ext.alloc) : Ext Aw Aw.drew).size
   obtain ⟨ca, cc, rfl, _⟩ := RowAt.open (RowAt.of_owns own1)
   try go_simp
   refine hK.out _ _ ?_ (fun hHeld => ?_)
   ·exact HS5.out _ (by repeat (first | exact hxe | exact Ext.refl _ | apply Ext.drew | apply Ext.alloc))
   clear hK K'
   try simp only [yA, yB, yC]
   refine wpAnyH_ready (rs := [4]) (by kernel_rfl) (by simp) ?_
   refine held_step (i := 4) (by kernel_rfl) (fun o ho K' hK => ?_) ?_
   ·simp only [zA, zB, zC, zD] at ho
    subst ho
    go_simp
    refine hK.out _ _ ?_ (fun hHeld => ?_)
    ·exact HS5.out _ (by repeat (first | exact hxe | exact Ext.refl _ | apply Ext.drew | apply Ext.alloc))
    clear hK K'
    try simp only [yA, yB, yC]
    refine wpAnyH_ready (rs := [5]) (by kernel_rfl) (by simp) ?_
    refine held_step (i := 5) (by kernel_rfl) (fun o ho K' hK => ?_) ?_
    ·simp only [zA, zB, zC, zD] at ho
     subst ho
     refine step_append_row E_ints (by rfl) _ _ (by rfl) _ (by rfl) (own1.alloc (Obj.cells #[.int .i64 (-1)] 3)) (by rfl) (RowAt.new1 w1 #[.int .i64 (-1)] 3) (by rfl) (by simp [Value.oneCell']) HSZ.out.1 HSZ.out.2 (Nat.le_trans hx1.size ((Ext.refl w1).alloc _).size) ?_
     intro v2 w2 hown2 hgrow _
     have hx02 : Ext Aw w2 := Ext.grown (hxe.alloc _) hgrow (fun k hk => Nat.le_trans hlow (owns_block own1 k hk))
     have HDI := Lib.hid (DealIn.of_owns (O1 := O) (xs := now.1 ++ [-1]) (r := now.2 + m) (by simpa using hown2) (by simp) (fun i hi => Nat.lt_of_lt_of_le ((fun i hi => Nat.lt_of_lt_of_le (HOA.out i hi) hxa.size) i hi) hlow))
     obtain ⟨a2, c2, rfl, _⟩ := RowAt.open (RowAt.of_owns hown2)
     clear hxe
     have hxe := hx02
     clear hx02 hown2 hgrow own1
     refine hK.out _ _ ?_ (fun hHeld => ?_)
     ·exact HS5.out _ (by repeat (first | exact hxe | exact Ext.refl _ | apply Ext.drew | apply Ext.alloc))
     clear hK K'
     refine hTk (i := 11) (d := some 39) (v := ?_) (fun o ho => ?_) hHeld ?_
     rotate_left
     ·simp only [zA, zB, zC, zD] at ho
      subst ho
      refine ⟨by rfl, fun w hSw => ?_⟩
      (try dsimp only at hSw)
      go_simp
      try with_reducible rfl
     try simp only [Act.put, yA, yB, yC]
     refine wpAnyH_ready (rs := [13]) (by kernel_rfl) (by simp) ?_
     refine held_step (i := 13) (by kernel_rfl) (fun o ho K' hK => ?_) ?_
     ·simp only [zA, zB, zC, zD] at ho
      subst ho
      go_simp
      go_at_call 105
      rw [show IntKind.i64.wrap (now.2 + m) = now.2 + m from IntWalk.i64_in _ (by omega)]
      refine (callsIn_wide.1 (HREC0.out w2 _ hxe HDI.out)).mono ?_
      rintro e w5 ⟨b', O3, rfl, hT5, hO5, hj5, hjx5⟩
      have hcb : w5.cell? ⟨cb, 0, none⟩ = some (.func (.func 105) #[] #[.pointer (some ⟨tb, 0, none⟩), .pointer (some ⟨yb, 0, none⟩), .pointer (some ⟨cb, 0, none⟩), .pointer (some ⟨lb, 0, none⟩), .pointer (some ⟨bb, 0, none⟩)]) := hT5.cell (HS5.out w2 hxe).1 HN0.out.di.oc
      have hT6 := (Touch.of_ext hxe).trans hT5
      have hO6 : ∀ i, O3 i → (O i ∨ Aw.heap.size ≤ i) ∧ i < w5.heap.size := fun i hi => ⟨(hO5 i hi).1.imp id (fun h => Nat.le_trans hxe.size h), (hO5 i hi).2⟩
      have HP := Lib.hid (show (b' = true → DNode b (.slice ra b.rivers.length rc) (.slice la l.length lc) (.slice (some ⟨kb, ko, none⟩) all.length kc) (.slice oa now.1.length oc) (.slice ua l.length uc) w0 bb lb tb yb cb ly (⟨(r : Int), (lo : Int), (hi : Int), m⟩ : Take) now used O A (J (k + dealCnt b l (⟨(r : Int), (lo : Int), (hi : Int), m⟩ : Take) rest now used 0)) O3 w5) ∧ (b' = false → Jx w5) from ⟨fun h => HN0.out.post HOA.out hT6 hO6 (hj5 h), hjx5⟩)
      have HT6 := Lib.hid (And.intro hT6 hO6)
      clear hT6 hO6 hj5 hjx5
      have hnA : ¬ O A.heap.size := fun h => by have := HOA.out _ h; omega
      have hnB : ¬ O (A.heap.size + 1) := fun h => by have := HOA.out _ h; omega
      try go_simp
      refine hK.out _ _ ?_ (fun hHeld => ?_)
      ·exact ⟨hcb, hT5.cell (HS5.out w2 hxe).2.1 hnA, hT5.cell (HS5.out w2 hxe).2.2.1 hnA, hT5.cell (HS5.out w2 hxe).2.2.2 hnB⟩
      clear hK K'
      try simp only [yA, yB, yC]
      refine hTk (i := 14) (d := some 42) (v := ?_) (fun o ho => ?_) hHeld ?_
      rotate_left
      ·simp only [zA, zB, zC, zD] at ho
       subst ho
       refine ⟨by rfl, fun w hSw => ?_⟩
       (try dsimp only at hSw)
       go_simp
       try with_reducible rfl
      try simp only [Act.put, yA, yB, yC]
      refine wpAnyH_done (by kernel_rfl) ?_ _
      try simp only [yA, yB, yC]
      go_wp2_with fail
      go_meet
      exact ⟨!b', O3, rfl, fun h => HP.out.1 (by simpa using h), fun h => ⟨HT6.out.1, HT6.out.2, HP.out.2 (by simpa using h)⟩⟩
     exact AllReadyH.nil
    exact AllReadyH.nil
   exact AllReadyH.nil
  refine held_step (i := 4) (by kernel_rfl) (fun o ho K' hK => ?_) ?_
  ·simp only [zA, zB, zC, zD] at ho
   subst ho
   go_simp
   refine hK.out _ _ ?_ (fun hHeld => ?_)
   ·exact HS5.out _ (by repeat (first | exact hxe | exact Ext.refl _ | apply Ext.drew | apply Ext.alloc))
   clear hK K'
   try simp only [yA, yB, yC]
   refine wpAnyH_ready (rs := [3]) (by kernel_rfl) (by simp) ?_
   refine held_step (i := 3) (by kernel_rfl) (fun o ho K' hK => ?_) ?_
   ·simp only [zA, zB, zC, zD] at ho
    subst ho
    go_simp
    go_at_call 106
    refine (HC.out (Aw.drew.alloc (.cells #[.int .i64 (-1)] 3)) (IntsAt.ext HN0.out.ints (by repeat (first | exact Ext.refl _ | apply Ext.drew | apply Ext.alloc)))).mono ?_
    rintro e w1 ⟨cv, rfl, own1, hx1⟩
    have hxe : Ext Aw w1 := (by repeat (first | exact Ext.refl _ | apply Ext.drew | apply Ext.alloc) : Ext Aw (Aw.drew.alloc (.cells #[.int .i64 (-1)] 3))).trans hx1
    have hlow : Aw.heap.size ≤ (Aw.drew.alloc (.cells #[.int .i64 (-1)] 3)).heap.size := (by repeat (first | exact Ext.refl _ | apply Ext.drew | apply Ext.alloc) : Ext Aw (Aw.drew.alloc (.cells #[.int .i64 (-1)] 3))).size
    obtain ⟨ca, cc, rfl, _⟩ := RowAt.open (RowAt.of_owns own1)
    try go_simp
    refine hK.out _ _ ?_ (fun hHeld => ?_)
    ·exact HS5.out _ (by repeat (first | exact hxe | exact Ext.refl _ | apply Ext.drew | apply Ext.alloc))
    clear hK K'
    try simp only [yA, yB, yC]
    refine wpAnyH_ready (rs := [5]) (by kernel_rfl) (by simp) ?_
    refine held_step (i := 5) (by kernel_rfl) (fun o ho K' hK => ?_) ?_
    ·simp only [zA, zB, zC, zD] at ho
     subst ho
     refine step_append_row E_ints (by rfl) _ _ (by rfl) _ (by rfl) own1 (by rfl) ((RowAt.new1 Aw.drew #[.int .i64 (-1)] 3).ext hx1) (by rfl) (by simp [Value.oneCell']) HSZ.out.1 HSZ.out.2 hx1.size ?_
     intro v2 w2 hown2 hgrow _
     have hx02 : Ext Aw w2 := Ext.grown hxe hgrow (fun k hk => Nat.le_trans hlow (owns_block own1 k hk))
     have HDI := Lib.hid (DealIn.of_owns (O1 := O) (xs := now.1 ++ [-1]) (r := now.2 + m) (by simpa using hown2) (by simp) (fun i hi => Nat.lt_of_lt_of_le ((fun i hi => Nat.lt_of_lt_of_le (HOA.out i hi) hxa.size) i hi) hlow))
     obtain ⟨a2, c2, rfl, _⟩ := RowAt.open (RowAt.of_owns hown2)
     clear hxe
     have hxe := hx02
     clear hx02 hown2 hgrow own1
     refine hK.out _ _ ?_ (fun hHeld => ?_)
     ·exact HS5.out _ (by repeat (first | exact hxe | exact Ext.refl _ | apply Ext.drew | apply Ext.alloc))
     clear hK K'
     refine hTk (i := 11) (d := some 39) (v := ?_) (fun o ho => ?_) hHeld ?_
     rotate_left
     ·simp only [zA, zB, zC, zD] at ho
      subst ho
      refine ⟨by rfl, fun w hSw => ?_⟩
      (try dsimp only at hSw)
      go_simp
      try with_reducible rfl
     try simp only [Act.put, yA, yB, yC]
     refine wpAnyH_ready (rs := [13]) (by kernel_rfl) (by simp) ?_
     refine held_step (i := 13) (by kernel_rfl) (fun o ho K' hK => ?_) ?_
     ·simp only [zA, zB, zC, zD] at ho
      subst ho
      go_simp
      go_at_call 105
      rw [show IntKind.i64.wrap (now.2 + m) = now.2 + m from IntWalk.i64_in _ (by omega)]
      refine (callsIn_wide.1 (HREC0.out w2 _ hxe HDI.out)).mono ?_
      rintro e w5 ⟨b', O3, rfl, hT5, hO5, hj5, hjx5⟩
      have hcb : w5.cell? ⟨cb, 0, none⟩ = some (.func (.func 105) #[] #[.pointer (some ⟨tb, 0, none⟩), .pointer (some ⟨yb, 0, none⟩), .pointer (some ⟨cb, 0, none⟩), .pointer (some ⟨lb, 0, none⟩), .pointer (some ⟨bb, 0, none⟩)]) := hT5.cell (HS5.out w2 hxe).1 HN0.out.di.oc
      have hT6 := (Touch.of_ext hxe).trans hT5
      have hO6 : ∀ i, O3 i → (O i ∨ Aw.heap.size ≤ i) ∧ i < w5.heap.size := fun i hi => ⟨(hO5 i hi).1.imp id (fun h => Nat.le_trans hxe.size h), (hO5 i hi).2⟩
      have HP := Lib.hid (show (b' = true → DNode b (.slice ra b.rivers.length rc) (.slice la l.length lc) (.slice (some ⟨kb, ko, none⟩) all.length kc) (.slice oa now.1.length oc) (.slice ua l.length uc) w0 bb lb tb yb cb ly (⟨(r : Int), (lo : Int), (hi : Int), m⟩ : Take) now used O A (J (k + dealCnt b l (⟨(r : Int), (lo : Int), (hi : Int), m⟩ : Take) rest now used 0)) O3 w5) ∧ (b' = false → Jx w5) from ⟨fun h => HN0.out.post HOA.out hT6 hO6 (hj5 h), hjx5⟩)
      have HT6 := Lib.hid (And.intro hT6 hO6)
      clear hT6 hO6 hj5 hjx5
      have hnA : ¬ O A.heap.size := fun h => by have := HOA.out _ h; omega
      have hnB : ¬ O (A.heap.size + 1) := fun h => by have := HOA.out _ h; omega
      try go_simp
      refine hK.out _ _ ?_ (fun hHeld => ?_)
      ·exact ⟨hcb, hT5.cell (HS5.out w2 hxe).2.1 hnA, hT5.cell (HS5.out w2 hxe).2.2.1 hnA, hT5.cell (HS5.out w2 hxe).2.2.2 hnB⟩
      clear hK K'
      try simp only [yA, yB, yC]
      refine hTk (i := 14) (d := some 42) (v := ?_) (fun o ho => ?_) hHeld ?_
      rotate_left
      ·simp only [zA, zB, zC, zD] at ho
       subst ho
       refine ⟨by rfl, fun w hSw => ?_⟩
       (try dsimp only at hSw)
       go_simp
       try with_reducible rfl
      try simp only [Act.put, yA, yB, yC]
      refine wpAnyH_done (by kernel_rfl) ?_ _
      try simp only [yA, yB, yC]
      go_wp2_with fail
      go_meet
      exact ⟨!b', O3, rfl, fun h => HP.out.1 (by simpa using h), fun h => ⟨HT6.out.1, HT6.out.2, HP.out.2 (by simpa using h)⟩⟩
     exact AllReadyH.nil
    exact AllReadyH.nil
   exact AllReadyH.nil
  exact AllReadyH.nil
 case rest =>
  obtain ⟨c, O1, rfl, hyes, hno⟩ := hcut
  cases c with
  | true =>
   obtain ⟨g1, g2, g3⟩ := hno rfl
   have HF := Lib.hid (show YRes O (J (k + (dealsFrom b l ((⟨(r : Int), (lo : Int), (hi : Int), m⟩ : Take) :: rest) now used).length)) Jx A (.returned (.bool false)) wc from ⟨false, O1, rfl, Touch.of_new ((Touch.of_ext hxa).trans g1) (fun i hi _ => hi), fun i hi => ⟨(g2 i hi).1.imp id (fun h => by omega), (g2 i hi).2⟩, (fun h => by cases h), fun _ => g3⟩)
   clear hyes hno g1 g2 g3
   go_wp2
   go_ret
   exact HF.out
  | false =>
   have hN := hyes rfl
   have q0 := hN.di.l0
   have HNN := Lib.hid hN
   clear hyes hno hN
   go_wp2
   clear q0
   go_loopw [45] (fun i wr => ∃ (n : Nat) (O2 : Nat → Prop), n ≤ l.length ∧ i = .int .i64 n ∧ Hid (DNode b (.slice ra b.rivers.length rc) (.slice la l.length lc) (.slice (some ⟨kb, ko, none⟩) all.length kc) (.slice oa now.1.length oc) (.slice ua l.length uc) w0 bb lb tb yb cb ly (⟨(r : Int), (lo : Int), (hi : Int), m⟩ : Take) now used O A (J (k + dealCnt b l (⟨(r : Int), (lo : Int), (hi : Int), m⟩ : Take) rest now used n)) O2 wr)) (fun i _ => l.length - (intOf i).toNat)
   case atStart => exact ⟨0, O1, Nat.zero_le _, rfl, HNN.out⟩
   case round =>
    obtain ⟨n, O2, hn, rfl, hN⟩ := hrel
    clear HNN
    by_cases hlt : n < l.length
    ·have j1 : (0 : Int) ≤ (n : Int) := by omega
     have j2 : (n : Int) < (l.length : Int) := by omega
     have t1 : decide ((n : Int) < (l.length : Int)) = true := by simpa using hlt
     obtain ⟨qb, qo, X, rfl, hX, x0, x1, x2, x3⟩ := HLV.out n hlt
     obtain ⟨ub, uo, u, hua, hu, hcu⟩ : ∃ ub uo u, ua = some ⟨ub, uo, none⟩ ∧ Hid (used[n]? = some u) ∧ wr.cell? ⟨ub, uo + n, none⟩ = some (.int .i64 u) := by
      obtain ⟨_, _, hv, _, _, h5⟩ := hN.out.us.open
      obtain ⟨ub, uo, u, f1, f2, f3⟩ := h5 n (by rw [HUL.out]; exact hlt)
      injection hv with q1 q2 q3
      exact ⟨ub, uo, u, q1.trans f1, f2, f3⟩
     subst hua
     try simp only at x0 x1 x2 x3
     have hN1 := hN.out
     have hlb := HLB.out X (List.mem_of_getElem? hX.out)
     have huu := HUB.out u (List.mem_of_getElem? hu.out)
     have hu0 := huu.1
     have hu6 := huu.2
     have HS10 := Lib.hid (fun W' (h : Ext wr W') => (⟨h.cell hN1.di.b0, h.cell hN1.di.b1, h.cell hN1.di.l0, h.cell (hN1.di.ext.cell x0), h.cell (hN1.di.ext.cell x1), h.cell (hN1.di.ext.cell x2), h.cell (hN1.di.ext.cell x3), h.cell hN1.k0, h.cell hN1.k1, h.cell hN1.k2, h.cell hN1.k3, h.cell hcu⟩ : (fun w' => w'.cell? ⟨bb, 0, none⟩ = some (.int .i64 b.years) ∧ w'.cell? ⟨bb, 1, none⟩ = some (.slice ra b.rivers.length rc) ∧ w'.cell? ⟨lb, 0, none⟩ = some (.slice (some ⟨qb, qo, none⟩) l.length lc) ∧ w'.cell? ⟨qb, qo + n * 4, none⟩ = some (.int .i64 X.river) ∧ w'.cell? ⟨qb, qo + n * 4 + 1, none⟩ = some (.int .i64 X.first) ∧ w'.cell? ⟨qb, qo + n * 4 + 2, none⟩ = some (.int .i64 X.last) ∧ w'.cell? ⟨qb, qo + n * 4 + 3, none⟩ = some (.int .i64 X.quota) ∧ w'.cell? ⟨A.heap.size + 1, 0, none⟩ = some (.int .i64 r) ∧ w'.cell? ⟨A.heap.size + 1, 1, none⟩ = some (.int .i64 lo) ∧ w'.cell? ⟨A.heap.size + 1, 2, none⟩ = some (.int .i64 hi) ∧ w'.cell? ⟨A.heap.size + 1, 3, none⟩ = some (.int .i64 m) ∧ w'.cell? ⟨ub, uo + n, none⟩ = some (.int .i64 u)) W'))
     have HG := Lib.hid (fun w1 (h : Ext wr w1) => good_any b (.slice ra b.rivers.length rc) X r lo hi m w1 HB.out (HR.out.ext (hN1.di.ext.trans h)) h1 h2 h3)
     have HLA := Lib.hid (licAt_at hX.out)
     have HGD := Lib.hid (getD_at hu.out)
     have HEN := Lib.hid (fun (hat : dealAt b l (⟨(r : Int), (lo : Int), (hi : Int), m⟩ : Take) used n = false) (W' : World) (h : Ext wr W') => (by have h7 := hN1.ext (HJ.out _) h; unfold Hid; rw [dealOn_no hat]; exact h7 : Hid (DNode b (.slice ra b.rivers.length rc) (.slice (some ⟨qb, qo, none⟩) l.length lc) (.slice (some ⟨kb, ko, none⟩) all.length kc) (.slice oa now.1.length oc) (.slice (some ⟨ub, uo, none⟩) l.length uc) w0 bb lb tb yb cb ly (⟨(r : Int), (lo : Int), (hi : Int), m⟩ : Take) now used O A (J (k + dealCnt b l (⟨(r : Int), (lo : Int), (hi : Int), m⟩ : Take) rest now used (n + 1))) O2 W')))
     have q0 := hN1.di.l0
     clear x0 x1 x2 x3 huu hlb hN1 q0
     cases hg : goodB b X (⟨(r : Int), (lo : Int), (hi : Int), m⟩ : Take) with
     | false =>
      have hat : dealAt b l (⟨(r : Int), (lo : Int), (hi : Int), m⟩ : Take) used n = false := by unfold dealAt; rw [HLA.out, hg]; rfl
      have HE := Lib.hid (HEN.out hat)
      rw [hg] at HG
      clear hat HEN hg
      go_upto_region 10 with fail
      refine wp_region_held_drew (S := (fun w' => w'.cell? ⟨bb, 0, none⟩ = some (.int .i64 b.years) ∧ w'.cell? ⟨bb, 1, none⟩ = some (.slice ra b.rivers.length rc) ∧ w'.cell? ⟨lb, 0, none⟩ = some (.slice (some ⟨qb, qo, none⟩) l.length lc) ∧ w'.cell? ⟨qb, qo + n * 4, none⟩ = some (.int .i64 X.river) ∧ w'.cell? ⟨qb, qo + n * 4 + 1, none⟩ = some (.int .i64 X.first) ∧ w'.cell? ⟨qb, qo + n * 4 + 2, none⟩ = some (.int .i64 X.last) ∧ w'.cell? ⟨qb, qo + n * 4 + 3, none⟩ = some (.int .i64 X.quota) ∧ w'.cell? ⟨A.heap.size + 1, 0, none⟩ = some (.int .i64 r) ∧ w'.cell? ⟨A.heap.size + 1, 1, none⟩ = some (.int .i64 lo) ∧ w'.cell? ⟨A.heap.size + 1, 2, none⟩ = some (.int .i64 hi) ∧ w'.cell? ⟨A.heap.size + 1, 3, none⟩ = some (.int .i64 m) ∧ w'.cell? ⟨ub, uo + n, none⟩ = some (.int .i64 u))) (by kernel_rfl) ?_ (fun hHeld => ?_)
      ·exact HS10.out _ (by repeat (first | exact hxe | exact Ext.refl _ | apply Ext.drew))
      refine hTk (i := 0) (d := some 48) (v := ?_) (fun o ho => ?_) hHeld ?_
      rotate_left
      ·simp only [zA, zB, zD] at ho
       subst ho
       refine ⟨by rfl, fun w hSw => ?_⟩
       (try dsimp only at hSw)
       go_simp
       try with_reducible rfl
      try simp only [Act.put, yA, yB, yC]
      refine hTk (i := 1) (d := some 49) (v := ?_) (fun o ho => ?_) hHeld ?_
      rotate_left
      ·simp only [zA, zB, zC, zD] at ho
       subst ho
       refine ⟨by rfl, fun w hSw => ?_⟩
       (try dsimp only at hSw)
       go_simp
       try with_reducible rfl
      try simp only [Act.put, yA, yB, yC]
      refine hTk (i := 2) (d := some 50) (v := ?_) (fun o ho => ?_) hHeld ?_
      rotate_left
      ·simp only [zA, zB, zC, zD] at ho
       subst ho
       refine ⟨by rfl, fun w hSw => ?_⟩
       (try dsimp only at hSw)
       go_simp
       try with_reducible rfl
      try simp only [Act.put, yA, yB, yC]
      refine hTk (i := 3) (d := some 51) (v := ?_) (fun o ho => ?_) hHeld ?_
      rotate_left
      ·simp only [zA, zB, zC, zD] at ho
       subst ho
       refine ⟨by rfl, fun w hSw => ?_⟩
       (try dsimp only at hSw)
       go_simp
       try with_reducible rfl
      try simp only [Act.put, yA, yB, yC]
      refine hTk (i := 4) (d := some 52) (v := ?_) (fun o ho => ?_) hHeld ?_
      rotate_left
      ·simp only [zA, zB, zC, zD] at ho
       subst ho
       refine ⟨by rfl, fun w hSw => ?_⟩
       (try dsimp only at hSw)
       go_simp
       try with_reducible rfl
      try simp only [Act.put, yA, yB, yC]
      refine hTk (i := 5) (d := some 53) (v := ?_) (fun o ho => ?_) hHeld ?_
      rotate_left
      ·simp only [zA, zB, zC, zD] at ho
       subst ho
       refine ⟨by rfl, fun w hSw => ?_⟩
       (try dsimp only at hSw)
       go_simp
       try with_reducible rfl
      try simp only [Act.put, yA, yB, yC]
      refine wpAnyH_ready (rs := [6]) (by kernel_rfl) (by simp) ?_
      refine held_step (i := 6) (by kernel_rfl) (fun o ho K' hK => ?_) ?_
      ·simp only [zA, zB, zC, zD] at ho
       subst ho
       go_simp
       go_at_call 107
       refine (HG.out _ (by repeat (first | exact Ext.refl _ | apply Ext.drew))).mono ?_
       rintro e w2 ⟨rfl, hx2⟩
       have hxe := (by repeat (first | exact Ext.refl _ | apply Ext.drew) : Ext wr wr.drew).trans hx2
       try go_simp
       refine hK.out _ _ ?_ (fun hHeld => ?_)
       ·exact HS10.out _ (by repeat (first | exact hxe | exact Ext.refl _ | apply Ext.drew))
       clear hK K'
       try simp only [yA, yB, yC]
       refine hTk (i := 7) (d := some 55) (v := ?_) (fun o ho => ?_) hHeld ?_
       rotate_left
       ·simp only [zA, zB, zC, zD] at ho
        subst ho
        refine ⟨by rfl, fun w hSw => ?_⟩
        (try dsimp only at hSw)
        go_simp
        try with_reducible rfl
       try simp only [Act.put, yA, yB, yC]
       refine hTk (i := 8) (d := some 56) (v := ?_) (fun o ho => ?_) hHeld ?_
       rotate_left
       ·simp only [zA, zB, zC, zD] at ho
        subst ho
        refine ⟨by rfl, fun w hSw => ?_⟩
        (try dsimp only at hSw)
        go_simp
        try with_reducible rfl
       try simp only [Act.put, yA, yB, yC]
       refine held_skip (i := 9) (d := some 57) (by kernel_rfl) (by kernel_rfl) (by kernel_rfl) (by kernel_rfl) (by kernel_rfl) (fun _ _ _ h => h) hHeld ?_
       try simp only [Act.put, yA, yB, yC]
       refine held_skip (i := 10) (d := some 58) (by kernel_rfl) (by kernel_rfl) (by kernel_rfl) (by kernel_rfl) (by kernel_rfl) (fun _ _ _ h => h) hHeld ?_
       try simp only [Act.put, yA, yB, yC]
       refine held_skip (i := 11) (d := some 59) (by kernel_rfl) (by kernel_rfl) (by kernel_rfl) (by kernel_rfl) (by kernel_rfl) (fun _ _ _ h => h) hHeld ?_
       try simp only [Act.put, yA, yB, yC]
       refine held_skip (i := 12) (d := some 60) (by kernel_rfl) (by kernel_rfl) (by kernel_rfl) (by kernel_rfl) (by kernel_rfl) (fun _ _ _ h => h) hHeld ?_
       try simp only [Act.put, yA, yB, yC]
       refine held_skip (i := 13) (d := some 61) (by kernel_rfl) (by kernel_rfl) (by kernel_rfl) (by kernel_rfl) (by kernel_rfl) (fun _ _ _ h => h) hHeld ?_
       try simp only [Act.put, yA, yB, yC]
       refine held_skip (i := 14) (d := some 62) (by kernel_rfl) (by kernel_rfl) (by kernel_rfl) (by kernel_rfl) (by kernel_rfl) (fun _ _ _ h => h) hHeld ?_
       try simp only [Act.put, yA, yB, yC]
       refine held_skip (i := 15) (d := some 63) (by kernel_rfl) (by kernel_rfl) (by kernel_rfl) (by kernel_rfl) (by kernel_rfl) (fun _ _ _ h => h) hHeld ?_
       try simp only [Act.put, yA, yB, yC]
       refine held_skip (i := 16) (d := some 64) (by kernel_rfl) (by kernel_rfl) (by kernel_rfl) (by kernel_rfl) (by kernel_rfl) (fun _ _ _ h => h) hHeld ?_
       try simp only [Act.put, yA, yB, yC]
       refine held_skip (i := 17) (d := some 65) (by kernel_rfl) (by kernel_rfl) (by kernel_rfl) (by kernel_rfl) (by kernel_rfl) (fun _ _ _ h => h) hHeld ?_
       try simp only [Act.put, yA, yB, yC]
       refine held_skip (i := 18) (d := some 66) (by kernel_rfl) (by kernel_rfl) (by kernel_rfl) (by kernel_rfl) (by kernel_rfl) (fun _ _ _ h => h) hHeld ?_
       try simp only [Act.put, yA, yB, yC]
       refine held_skip (i := 19) (d := some 67) (by kernel_rfl) (by kernel_rfl) (by kernel_rfl) (by kernel_rfl) (by kernel_rfl) (fun _ _ _ h => h) hHeld ?_
       try simp only [Act.put, yA, yB, yC]
       refine held_skip (i := 20) (d := some 68) (by kernel_rfl) (by kernel_rfl) (by kernel_rfl) (by kernel_rfl) (by kernel_rfl) (fun _ _ _ h => h) hHeld ?_
       try simp only [Act.put, yA, yB, yC]
       refine held_skip (i := 21) (d := some 69) (by kernel_rfl) (by kernel_rfl) (by kernel_rfl) (by kernel_rfl) (by kernel_rfl) (fun _ _ _ h => h) hHeld ?_
       try simp only [Act.put, yA, yB, yC]
       refine hTk (i := 22) (d := some 70) (v := ?_) (fun o ho => ?_) hHeld ?_
       rotate_left
       ·simp only [zA, zB, zC, zD] at ho
        subst ho
        refine ⟨by rfl, fun w hSw => ?_⟩
        (try dsimp only at hSw)
        go_simp
        try with_reducible rfl
       try simp only [Act.put, yA, yB, yC]
       refine wpAnyH_done (by kernel_rfl) ?_ _
       try simp only [yA, yB, yC]
       clear hHeld
       have HED := Lib.hid (HE.out _ hxe)
       go_wp2_with fail
       go_roundw
       case rel => exact ⟨n + 1, O2, by omega, by go_num, HED.out⟩
       case measure => simp [intOf]; omega
      exact AllReadyH.nil
     | true =>
      rw [hg] at HG
      have HGG := Lib.hid hg
      clear hg
      by_cases hq : X.quota < u + m
      ·have hat : dealAt b l (⟨(r : Int), (lo : Int), (hi : Int), m⟩ : Take) used n = false := by unfold dealAt; rw [HLA.out, HGG.out, HGD.out]; simp; omega
       have HE := Lib.hid (HEN.out hat)
       have tq : decide (X.quota < u + m) = true := by simpa using hq
       clear hat HEN
       go_upto_region 10 with fail
       refine wp_region_held_drew (S := (fun w' => w'.cell? ⟨bb, 0, none⟩ = some (.int .i64 b.years) ∧ w'.cell? ⟨bb, 1, none⟩ = some (.slice ra b.rivers.length rc) ∧ w'.cell? ⟨lb, 0, none⟩ = some (.slice (some ⟨qb, qo, none⟩) l.length lc) ∧ w'.cell? ⟨qb, qo + n * 4, none⟩ = some (.int .i64 X.river) ∧ w'.cell? ⟨qb, qo + n * 4 + 1, none⟩ = some (.int .i64 X.first) ∧ w'.cell? ⟨qb, qo + n * 4 + 2, none⟩ = some (.int .i64 X.last) ∧ w'.cell? ⟨qb, qo + n * 4 + 3, none⟩ = some (.int .i64 X.quota) ∧ w'.cell? ⟨A.heap.size + 1, 0, none⟩ = some (.int .i64 r) ∧ w'.cell? ⟨A.heap.size + 1, 1, none⟩ = some (.int .i64 lo) ∧ w'.cell? ⟨A.heap.size + 1, 2, none⟩ = some (.int .i64 hi) ∧ w'.cell? ⟨A.heap.size + 1, 3, none⟩ = some (.int .i64 m) ∧ w'.cell? ⟨ub, uo + n, none⟩ = some (.int .i64 u))) (by kernel_rfl) ?_ (fun hHeld => ?_)
       ·exact HS10.out _ (by repeat (first | exact hxe | exact Ext.refl _ | apply Ext.drew))
       refine hTk (i := 0) (d := some 48) (v := ?_) (fun o ho => ?_) hHeld ?_
       rotate_left
       ·simp only [zA, zB, zD] at ho
        subst ho
        refine ⟨by rfl, fun w hSw => ?_⟩
        (try dsimp only at hSw)
        go_simp
        try with_reducible rfl
       try simp only [Act.put, yA, yB, yC]
       refine hTk (i := 1) (d := some 49) (v := ?_) (fun o ho => ?_) hHeld ?_
       rotate_left
       ·simp only [zA, zB, zC, zD] at ho
        subst ho
        refine ⟨by rfl, fun w hSw => ?_⟩
        (try dsimp only at hSw)
        go_simp
        try with_reducible rfl
       try simp only [Act.put, yA, yB, yC]
       refine hTk (i := 2) (d := some 50) (v := ?_) (fun o ho => ?_) hHeld ?_
       rotate_left
       ·simp only [zA, zB, zC, zD] at ho
        subst ho
        refine ⟨by rfl, fun w hSw => ?_⟩
        (try dsimp only at hSw)
        go_simp
        try with_reducible rfl
       try simp only [Act.put, yA, yB, yC]
       refine hTk (i := 3) (d := some 51) (v := ?_) (fun o ho => ?_) hHeld ?_
       rotate_left
       ·simp only [zA, zB, zC, zD] at ho
        subst ho
        refine ⟨by rfl, fun w hSw => ?_⟩
        (try dsimp only at hSw)
        go_simp
        try with_reducible rfl
       try simp only [Act.put, yA, yB, yC]
       refine hTk (i := 4) (d := some 52) (v := ?_) (fun o ho => ?_) hHeld ?_
       rotate_left
       ·simp only [zA, zB, zC, zD] at ho
        subst ho
        refine ⟨by rfl, fun w hSw => ?_⟩
        (try dsimp only at hSw)
        go_simp
        try with_reducible rfl
       try simp only [Act.put, yA, yB, yC]
       refine hTk (i := 5) (d := some 53) (v := ?_) (fun o ho => ?_) hHeld ?_
       rotate_left
       ·simp only [zA, zB, zC, zD] at ho
        subst ho
        refine ⟨by rfl, fun w hSw => ?_⟩
        (try dsimp only at hSw)
        go_simp
        try with_reducible rfl
       try simp only [Act.put, yA, yB, yC]
       refine wpAnyH_ready (rs := [6]) (by kernel_rfl) (by simp) ?_
       refine held_step (i := 6) (by kernel_rfl) (fun o ho K' hK => ?_) ?_
       ·simp only [zA, zB, zC, zD] at ho
        subst ho
        go_simp
        go_at_call 107
        refine (HG.out _ (by repeat (first | exact Ext.refl _ | apply Ext.drew))).mono ?_
        rintro e w2 ⟨rfl, hx2⟩
        have hxe := (by repeat (first | exact Ext.refl _ | apply Ext.drew) : Ext wr wr.drew).trans hx2
        try go_simp
        refine hK.out _ _ ?_ (fun hHeld => ?_)
        ·exact HS10.out _ (by repeat (first | exact hxe | exact Ext.refl _ | apply Ext.drew))
        clear hK K'
        try simp only [yA, yB, yC]
        refine hTk (i := 7) (d := some 55) (v := ?_) (fun o ho => ?_) hHeld ?_
        rotate_left
        ·simp only [zA, zB, zC, zD] at ho
         subst ho
         refine ⟨by rfl, fun w hSw => ?_⟩
         (try dsimp only at hSw)
         go_simp
         try with_reducible rfl
        try simp only [Act.put, yA, yB, yC]
        refine hTk (i := 8) (d := some 56) (v := ?_) (fun o ho => ?_) hHeld ?_
        rotate_left
        ·simp only [zA, zB, zC, zD] at ho
         subst ho
         refine ⟨by rfl, fun w hSw => ?_⟩
         (try dsimp only at hSw)
         go_simp
         try with_reducible rfl
        try simp only [Act.put, yA, yB, yC]
        refine hTk (i := 9) (d := some 57) (v := ?_) (fun o ho => ?_) hHeld ?_
        rotate_left
        ·simp only [zA, zB, zC, zD] at ho
         subst ho
         refine ⟨by rfl, fun w hSw => ?_⟩
         (try dsimp only at hSw)
         go_simp
         try with_reducible rfl
        try simp only [Act.put, yA, yB, yC]
        refine hTk (i := 10) (d := some 58) (v := ?_) (fun o ho => ?_) hHeld ?_
        rotate_left
        ·simp only [zA, zB, zC, zD] at ho
         subst ho
         refine ⟨by rfl, fun w hSw => ?_⟩
         (try dsimp only at hSw)
         go_simp
         try with_reducible rfl
        try simp only [Act.put, yA, yB, yC]
        refine hTk (i := 11) (d := some 59) (v := ?_) (fun o ho => ?_) hHeld ?_
        rotate_left
        ·simp only [zA, zB, zC, zD] at ho
         subst ho
         refine ⟨by rfl, fun w hSw => ?_⟩
         (try dsimp only at hSw)
         go_simp
         try with_reducible rfl
        try simp only [Act.put, yA, yB, yC]
        refine hTk (i := 12) (d := some 60) (v := ?_) (fun o ho => ?_) hHeld ?_
        rotate_left
        ·simp only [zA, zB, zC, zD] at ho
         subst ho
         refine ⟨by rfl, fun w hSw => ?_⟩
         (try dsimp only at hSw)
         go_simp
         try with_reducible rfl
        try simp only [Act.put, yA, yB, yC]
        refine hTk (i := 13) (d := some 61) (v := ?_) (fun o ho => ?_) hHeld ?_
        rotate_left
        ·simp only [zA, zB, zC, zD] at ho
         subst ho
         refine ⟨by rfl, fun w hSw => ?_⟩
         (try dsimp only at hSw)
         go_simp
         try with_reducible rfl
        try simp only [Act.put, yA, yB, yC]
        refine hTk (i := 14) (d := some 62) (v := ?_) (fun o ho => ?_) hHeld ?_
        rotate_left
        ·simp only [zA, zB, zC, zD] at ho
         subst ho
         refine ⟨by rfl, fun w hSw => ?_⟩
         (try dsimp only at hSw)
         go_simp
         try with_reducible rfl
        try simp only [Act.put, yA, yB, yC]
        refine hTk (i := 15) (d := some 63) (v := ?_) (fun o ho => ?_) hHeld ?_
        rotate_left
        ·simp only [zA, zB, zC, zD] at ho
         subst ho
         refine ⟨by rfl, fun w hSw => ?_⟩
         (try dsimp only at hSw)
         go_simp
         rw [show IntKind.i64.wrap (u + m) = u + m from IntWalk.i64_in _ (by omega)]
         try with_reducible rfl
        try simp only [Act.put, yA, yB, yC]
        refine hTk (i := 16) (d := some 64) (v := ?_) (fun o ho => ?_) hHeld ?_
        rotate_left
        ·simp only [zA, zB, zC, zD] at ho
         subst ho
         refine ⟨by rfl, fun w hSw => ?_⟩
         (try dsimp only at hSw)
         go_simp
         try with_reducible rfl
        try simp only [Act.put, yA, yB, yC]
        refine hTk (i := 17) (d := some 65) (v := ?_) (fun o ho => ?_) hHeld ?_
        rotate_left
        ·simp only [zA, zB, zC, zD] at ho
         subst ho
         refine ⟨by rfl, fun w hSw => ?_⟩
         (try dsimp only at hSw)
         go_simp
         try with_reducible rfl
        try simp only [Act.put, yA, yB, yC]
        refine hTk (i := 18) (d := some 66) (v := ?_) (fun o ho => ?_) hHeld ?_
        rotate_left
        ·simp only [zA, zB, zC, zD] at ho
         subst ho
         refine ⟨by rfl, fun w hSw => ?_⟩
         (try dsimp only at hSw)
         go_simp
         try with_reducible rfl
        try simp only [Act.put, yA, yB, yC]
        refine hTk (i := 19) (d := some 67) (v := ?_) (fun o ho => ?_) hHeld ?_
        rotate_left
        ·simp only [zA, zB, zC, zD] at ho
         subst ho
         refine ⟨by rfl, fun w hSw => ?_⟩
         (try dsimp only at hSw)
         go_simp
         try with_reducible rfl
        try simp only [Act.put, yA, yB, yC]
        refine hTk (i := 20) (d := some 68) (v := ?_) (fun o ho => ?_) hHeld ?_
        rotate_left
        ·simp only [zA, zB, zC, zD] at ho
         subst ho
         refine ⟨by rfl, fun w hSw => ?_⟩
         (try dsimp only at hSw)
         go_simp
         try with_reducible rfl
        try simp only [Act.put, yA, yB, yC]
        refine hTk (i := 21) (d := some 69) (v := ?_) (fun o ho => ?_) hHeld ?_
        rotate_left
        ·simp only [zA, zB, zC, zD] at ho
         subst ho
         refine ⟨by rfl, fun w hSw => ?_⟩
         (try dsimp only at hSw)
         go_simp
         try with_reducible rfl
        try simp only [Act.put, yA, yB, yC]
        refine hTk (i := 22) (d := some 70) (v := ?_) (fun o ho => ?_) hHeld ?_
        rotate_left
        ·simp only [zA, zB, zC, zD] at ho
         subst ho
         refine ⟨by rfl, fun w hSw => ?_⟩
         (try dsimp only at hSw)
         go_simp
         try with_reducible rfl
        try simp only [Act.put, yA, yB, yC]
        refine wpAnyH_done (by kernel_rfl) ?_ _
        try simp only [yA, yB, yC]
        clear hHeld
        have HED := Lib.hid (HE.out _ hxe)
        go_wp2_with fail
        go_roundw
        case rel => exact ⟨n + 1, O2, by omega, by go_num, HED.out⟩
        case measure => simp [intOf]; omega
       exact AllReadyH.nil
      ·have hat : dealAt b l (⟨(r : Int), (lo : Int), (hi : Int), m⟩ : Take) used n = true := by unfold dealAt; rw [HLA.out, HGG.out, HGD.out]; simp; omega
       have HAT := Lib.hid hat
       have tq : decide (X.quota < u + m) = false := by simp; omega
       clear hat HEN
       go_upto_region 10 with fail
       refine wp_region_held_drew (S := (fun w' => w'.cell? ⟨bb, 0, none⟩ = some (.int .i64 b.years) ∧ w'.cell? ⟨bb, 1, none⟩ = some (.slice ra b.rivers.length rc) ∧ w'.cell? ⟨lb, 0, none⟩ = some (.slice (some ⟨qb, qo, none⟩) l.length lc) ∧ w'.cell? ⟨qb, qo + n * 4, none⟩ = some (.int .i64 X.river) ∧ w'.cell? ⟨qb, qo + n * 4 + 1, none⟩ = some (.int .i64 X.first) ∧ w'.cell? ⟨qb, qo + n * 4 + 2, none⟩ = some (.int .i64 X.last) ∧ w'.cell? ⟨qb, qo + n * 4 + 3, none⟩ = some (.int .i64 X.quota) ∧ w'.cell? ⟨A.heap.size + 1, 0, none⟩ = some (.int .i64 r) ∧ w'.cell? ⟨A.heap.size + 1, 1, none⟩ = some (.int .i64 lo) ∧ w'.cell? ⟨A.heap.size + 1, 2, none⟩ = some (.int .i64 hi) ∧ w'.cell? ⟨A.heap.size + 1, 3, none⟩ = some (.int .i64 m) ∧ w'.cell? ⟨ub, uo + n, none⟩ = some (.int .i64 u))) (by kernel_rfl) ?_ (fun hHeld => ?_)
       ·exact HS10.out _ (by repeat (first | exact hxe | exact Ext.refl _ | apply Ext.drew))
       refine hTk (i := 0) (d := some 48) (v := ?_) (fun o ho => ?_) hHeld ?_
       rotate_left
       ·simp only [zA, zB, zD] at ho
        subst ho
        refine ⟨by rfl, fun w hSw => ?_⟩
        (try dsimp only at hSw)
        go_simp
        try with_reducible rfl
       try simp only [Act.put, yA, yB, yC]
       refine hTk (i := 1) (d := some 49) (v := ?_) (fun o ho => ?_) hHeld ?_
       rotate_left
       ·simp only [zA, zB, zC, zD] at ho
        subst ho
        refine ⟨by rfl, fun w hSw => ?_⟩
        (try dsimp only at hSw)
        go_simp
        try with_reducible rfl
       try simp only [Act.put, yA, yB, yC]
       refine hTk (i := 2) (d := some 50) (v := ?_) (fun o ho => ?_) hHeld ?_
       rotate_left
       ·simp only [zA, zB, zC, zD] at ho
        subst ho
        refine ⟨by rfl, fun w hSw => ?_⟩
        (try dsimp only at hSw)
        go_simp
        try with_reducible rfl
       try simp only [Act.put, yA, yB, yC]
       refine hTk (i := 3) (d := some 51) (v := ?_) (fun o ho => ?_) hHeld ?_
       rotate_left
       ·simp only [zA, zB, zC, zD] at ho
        subst ho
        refine ⟨by rfl, fun w hSw => ?_⟩
        (try dsimp only at hSw)
        go_simp
        try with_reducible rfl
       try simp only [Act.put, yA, yB, yC]
       refine hTk (i := 4) (d := some 52) (v := ?_) (fun o ho => ?_) hHeld ?_
       rotate_left
       ·simp only [zA, zB, zC, zD] at ho
        subst ho
        refine ⟨by rfl, fun w hSw => ?_⟩
        (try dsimp only at hSw)
        go_simp
        try with_reducible rfl
       try simp only [Act.put, yA, yB, yC]
       refine hTk (i := 5) (d := some 53) (v := ?_) (fun o ho => ?_) hHeld ?_
       rotate_left
       ·simp only [zA, zB, zC, zD] at ho
        subst ho
        refine ⟨by rfl, fun w hSw => ?_⟩
        (try dsimp only at hSw)
        go_simp
        try with_reducible rfl
       try simp only [Act.put, yA, yB, yC]
       refine wpAnyH_ready (rs := [6]) (by kernel_rfl) (by simp) ?_
       refine held_step (i := 6) (by kernel_rfl) (fun o ho K' hK => ?_) ?_
       ·simp only [zA, zB, zC, zD] at ho
        subst ho
        go_simp
        go_at_call 107
        refine (HG.out _ (by repeat (first | exact Ext.refl _ | apply Ext.drew))).mono ?_
        rintro e w2 ⟨rfl, hx2⟩
        have hxe := (by repeat (first | exact Ext.refl _ | apply Ext.drew) : Ext wr wr.drew).trans hx2
        try go_simp
        refine hK.out _ _ ?_ (fun hHeld => ?_)
        ·exact HS10.out _ (by repeat (first | exact hxe | exact Ext.refl _ | apply Ext.drew))
        clear hK K'
        try simp only [yA, yB, yC]
        refine hTk (i := 7) (d := some 55) (v := ?_) (fun o ho => ?_) hHeld ?_
        rotate_left
        ·simp only [zA, zB, zC, zD] at ho
         subst ho
         refine ⟨by rfl, fun w hSw => ?_⟩
         (try dsimp only at hSw)
         go_simp
         try with_reducible rfl
        try simp only [Act.put, yA, yB, yC]
        refine hTk (i := 8) (d := some 56) (v := ?_) (fun o ho => ?_) hHeld ?_
        rotate_left
        ·simp only [zA, zB, zC, zD] at ho
         subst ho
         refine ⟨by rfl, fun w hSw => ?_⟩
         (try dsimp only at hSw)
         go_simp
         try with_reducible rfl
        try simp only [Act.put, yA, yB, yC]
        refine hTk (i := 9) (d := some 57) (v := ?_) (fun o ho => ?_) hHeld ?_
        rotate_left
        ·simp only [zA, zB, zC, zD] at ho
         subst ho
         refine ⟨by rfl, fun w hSw => ?_⟩
         (try dsimp only at hSw)
         go_simp
         try with_reducible rfl
        try simp only [Act.put, yA, yB, yC]
        refine hTk (i := 10) (d := some 58) (v := ?_) (fun o ho => ?_) hHeld ?_
        rotate_left
        ·simp only [zA, zB, zC, zD] at ho
         subst ho
         refine ⟨by rfl, fun w hSw => ?_⟩
         (try dsimp only at hSw)
         go_simp
         try with_reducible rfl
        try simp only [Act.put, yA, yB, yC]
        refine hTk (i := 11) (d := some 59) (v := ?_) (fun o ho => ?_) hHeld ?_
        rotate_left
        ·simp only [zA, zB, zC, zD] at ho
         subst ho
         refine ⟨by rfl, fun w hSw => ?_⟩
         (try dsimp only at hSw)
         go_simp
         try with_reducible rfl
        try simp only [Act.put, yA, yB, yC]
        refine hTk (i := 12) (d := some 60) (v := ?_) (fun o ho => ?_) hHeld ?_
        rotate_left
        ·simp only [zA, zB, zC, zD] at ho
         subst ho
         refine ⟨by rfl, fun w hSw => ?_⟩
         (try dsimp only at hSw)
         go_simp
         try with_reducible rfl
        try simp only [Act.put, yA, yB, yC]
        refine hTk (i := 13) (d := some 61) (v := ?_) (fun o ho => ?_) hHeld ?_
        rotate_left
        ·simp only [zA, zB, zC, zD] at ho
         subst ho
         refine ⟨by rfl, fun w hSw => ?_⟩
         (try dsimp only at hSw)
         go_simp
         try with_reducible rfl
        try simp only [Act.put, yA, yB, yC]
        refine hTk (i := 14) (d := some 62) (v := ?_) (fun o ho => ?_) hHeld ?_
        rotate_left
        ·simp only [zA, zB, zC, zD] at ho
         subst ho
         refine ⟨by rfl, fun w hSw => ?_⟩
         (try dsimp only at hSw)
         go_simp
         try with_reducible rfl
        try simp only [Act.put, yA, yB, yC]
        refine hTk (i := 15) (d := some 63) (v := ?_) (fun o ho => ?_) hHeld ?_
        rotate_left
        ·simp only [zA, zB, zC, zD] at ho
         subst ho
         refine ⟨by rfl, fun w hSw => ?_⟩
         (try dsimp only at hSw)
         go_simp
         rw [show IntKind.i64.wrap (u + m) = u + m from IntWalk.i64_in _ (by omega)]
         try with_reducible rfl
        try simp only [Act.put, yA, yB, yC]
        refine hTk (i := 16) (d := some 64) (v := ?_) (fun o ho => ?_) hHeld ?_
        rotate_left
        ·simp only [zA, zB, zC, zD] at ho
         subst ho
         refine ⟨by rfl, fun w hSw => ?_⟩
         (try dsimp only at hSw)
         go_simp
         try with_reducible rfl
        try simp only [Act.put, yA, yB, yC]
        refine hTk (i := 17) (d := some 65) (v := ?_) (fun o ho => ?_) hHeld ?_
        rotate_left
        ·simp only [zA, zB, zC, zD] at ho
         subst ho
         refine ⟨by rfl, fun w hSw => ?_⟩
         (try dsimp only at hSw)
         go_simp
         try with_reducible rfl
        try simp only [Act.put, yA, yB, yC]
        refine hTk (i := 18) (d := some 66) (v := ?_) (fun o ho => ?_) hHeld ?_
        rotate_left
        ·simp only [zA, zB, zC, zD] at ho
         subst ho
         refine ⟨by rfl, fun w hSw => ?_⟩
         (try dsimp only at hSw)
         go_simp
         try with_reducible rfl
        try simp only [Act.put, yA, yB, yC]
        refine hTk (i := 19) (d := some 67) (v := ?_) (fun o ho => ?_) hHeld ?_
        rotate_left
        ·simp only [zA, zB, zC, zD] at ho
         subst ho
         refine ⟨by rfl, fun w hSw => ?_⟩
         (try dsimp only at hSw)
         go_simp
         try with_reducible rfl
        try simp only [Act.put, yA, yB, yC]
        refine hTk (i := 20) (d := some 68) (v := ?_) (fun o ho => ?_) hHeld ?_
        rotate_left
        ·simp only [zA, zB, zC, zD] at ho
         subst ho
         refine ⟨by rfl, fun w hSw => ?_⟩
         (try dsimp only at hSw)
         go_simp
         try with_reducible rfl
        try simp only [Act.put, yA, yB, yC]
        refine hTk (i := 21) (d := some 69) (v := ?_) (fun o ho => ?_) hHeld ?_
        rotate_left
        ·simp only [zA, zB, zC, zD] at ho
         subst ho
         refine ⟨by rfl, fun w hSw => ?_⟩
         (try dsimp only at hSw)
         go_simp
         try with_reducible rfl
        try simp only [Act.put, yA, yB, yC]
        refine hTk (i := 22) (d := some 70) (v := ?_) (fun o ho => ?_) hHeld ?_
        rotate_left
        ·simp only [zA, zB, zC, zD] at ho
         subst ho
         refine ⟨by rfl, fun w hSw => ?_⟩
         (try dsimp only at hSw)
         go_simp
         try with_reducible rfl
        try simp only [Act.put, yA, yB, yC]
        refine wpAnyH_done (by kernel_rfl) ?_ _
        try simp only [yA, yB, yC]
        clear hHeld
        have hN2 := hN.out.ext (HJ.out _) hxe
        have q1 := hN2.di.l0
        have HN2 := Lib.hid hN2
        have hus2 := hN2.us
        clear hN2 q1
        go_upto_region 12 with (go_at_call 106; refine (HCU.out _ hus2).mono ?_; rintro e w3 ⟨cv, rfl, own3, hx3⟩; obtain ⟨g3, cap3, rfl, hgb, hgl⟩ := owns_some own3 hlt)
        have hx23 : Ext wr w3 := hxe.trans hx3
        have hc3 : w3.cell? ⟨g3, n, none⟩ = some (.int .i64 u) := by rw [own3.cellAt n (by omega), List.getElem?_map, hu.out]; rfl
        have hf3 := own3.frozenAt n
        have hm3 : w3.cell? ⟨A.heap.size + 1, 3, none⟩ = some (.int .i64 m) := hx3.cell HN2.out.k3
        have j3 : (n : Int) < (l.length : Int) := j2
        have HOW := Lib.hid own3
        clear own3 hus2
        refine wp_region_noPanic ?_
        refine wp_region_any (by kernel_rfl) (wpAny_of_till (z := 8) (S := (fun w' => w'.cell? ⟨g3, n, none⟩ = some (.int .i64 u) ∧ w'.cell? ⟨A.heap.size + 1, 3, none⟩ = some (.int .i64 m) ∧ w'.frozen? ⟨g3, n, none⟩ = false)) _ _ _ _ ?_)
        change wpTill _ _ _ _ _ _ _ _ _ w3.drew
        have hS0 := (show w3.drew.cell? ⟨g3, n, none⟩ = some (.int .i64 u) ∧ w3.drew.cell? ⟨A.heap.size + 1, 3, none⟩ = some (.int .i64 m) ∧ w3.drew.frozen? ⟨g3, n, none⟩ = false from ⟨hc3, hm3, hf3⟩)
        refine till_at (i := 0) (d := some 73) (v := ?_) (by kernel_rfl) (by kernel_rfl) (by kernel_rfl) (by kernel_rfl) (by kernel_rfl) (fun _ _ _ h => h) (fun o ho => ?_) hS0 ?_
        rotate_left
        ·simp only [zA, zB, zD] at ho
         subst ho
         refine Or.inl ⟨by rfl, fun w' hSw => ?_⟩
         obtain ⟨hSw0, hSw1, hSw2⟩ := hSw
         go_simp
         try with_reducible rfl
        try simp only [Act.put, yA, yB, yC]
        refine till_at (i := 1) (d := some 74) (v := ?_) (by kernel_rfl) (by kernel_rfl) (by kernel_rfl) (by kernel_rfl) (by kernel_rfl) (fun _ _ _ h => h) (fun o ho => ?_) hS0 ?_
        rotate_left
        ·simp only [zA, zB, zC, zD] at ho
         subst ho
         refine Or.inl ⟨by rfl, fun w' hSw => ?_⟩
         obtain ⟨hSw0, hSw1, hSw2⟩ := hSw
         go_simp
         try with_reducible rfl
        try simp only [Act.put, yA, yB, yC]
        refine till_at (i := 2) (d := some 75) (v := ?_) (by kernel_rfl) (by kernel_rfl) (by kernel_rfl) (by kernel_rfl) (by kernel_rfl) (fun _ _ _ h => h) (fun o ho => ?_) hS0 ?_
        rotate_left
        ·simp only [zA, zB, zC, zD] at ho
         subst ho
         refine Or.inl ⟨by rfl, fun w' hSw => ?_⟩
         obtain ⟨hSw0, hSw1, hSw2⟩ := hSw
         go_simp
         try with_reducible rfl
        try simp only [Act.put, yA, yB, yC]
        refine till_at (i := 3) (d := some 76) (v := ?_) (by kernel_rfl) (by kernel_rfl) (by kernel_rfl) (by kernel_rfl) (by kernel_rfl) (fun _ _ _ h => h) (fun o ho => ?_) hS0 ?_
        rotate_left
        ·simp only [zA, zB, zC, zD] at ho
         subst ho
         refine Or.inl ⟨by rfl, fun w' hSw => ?_⟩
         obtain ⟨hSw0, hSw1, hSw2⟩ := hSw
         go_simp
         try with_reducible rfl
        try simp only [Act.put, yA, yB, yC]
        refine till_at (i := 4) (d := some 77) (v := ?_) (by kernel_rfl) (by kernel_rfl) (by kernel_rfl) (by kernel_rfl) (by kernel_rfl) (fun _ _ _ h => h) (fun o ho => ?_) hS0 ?_
        rotate_left
        ·simp only [zA, zB, zC, zD] at ho
         subst ho
         refine Or.inl ⟨by rfl, fun w' hSw => ?_⟩
         obtain ⟨hSw0, hSw1, hSw2⟩ := hSw
         go_simp
         try with_reducible rfl
        try simp only [Act.put, yA, yB, yC]
        refine till_at (i := 5) (d := some 78) (v := ?_) (by kernel_rfl) (by kernel_rfl) (by kernel_rfl) (by kernel_rfl) (by kernel_rfl) (fun _ _ _ h => h) (fun o ho => ?_) hS0 ?_
        rotate_left
        ·simp only [zA, zB, zC, zD] at ho
         subst ho
         refine Or.inl ⟨by rfl, fun w' hSw => ?_⟩
         obtain ⟨hSw0, hSw1, hSw2⟩ := hSw
         go_simp
         try with_reducible rfl
        try simp only [Act.put, yA, yB, yC]
        refine till_at (i := 6) (d := some 79) (v := ?_) (by kernel_rfl) (by kernel_rfl) (by kernel_rfl) (by kernel_rfl) (by kernel_rfl) (fun _ _ _ h => h) (fun o ho => ?_) hS0 ?_
        rotate_left
        ·simp only [zA, zB, zC, zD] at ho
         subst ho
         refine Or.inl ⟨by rfl, fun w' hSw => ?_⟩
         obtain ⟨hSw0, hSw1, hSw2⟩ := hSw
         go_simp
         try with_reducible rfl
        try simp only [Act.put, yA, yB, yC]
        refine till_at (i := 7) (d := some 80) (v := ?_) (by kernel_rfl) (by kernel_rfl) (by kernel_rfl) (by kernel_rfl) (by kernel_rfl) (fun _ _ _ h => h) (fun o ho => ?_) hS0 ?_
        rotate_left
        ·simp only [zA, zB, zC, zD] at ho
         subst ho
         refine Or.inl ⟨by rfl, fun w' hSw => ?_⟩
         obtain ⟨hSw0, hSw1, hSw2⟩ := hSw
         go_simp
         try with_reducible rfl
        try simp only [Act.put, yA, yB, yC]
        refine till_step (i := 8) (by kernel_rfl) (by kernel_rfl) (fun o ho K' hK => ?_)
        simp only [zA, zB, zC, zD] at ho
        subst ho
        go_simp
        refine hK.out _ _ (fun h => absurd rfl h) (fun _ => ?_)
        clear hK K'
        try simp only [Act.put, yA, yB, yC]
        refine till_done (by kernel_rfl) ?_ _
        refine NoPanic.normal ?_
        try simp only [Act.put, yA, yB, yC]
        (try rw [show IntKind.i64.wrap (u + m) = u + m from IntWalk.i64_in _ (by omega)])
        have hgn : wr.heap.size ≤ g3 := Nat.le_trans hxe.size hgb
        have hx4 : Ext wr (w3.setCell ⟨g3, n, none⟩ (.int .i64 (u + m))).drew := (hx23.setCell hgn _).drew
        have hx24 : Ext w2 (w3.setCell ⟨g3, n, none⟩ (.int .i64 (u + m))).drew := (hx3.setCell hgb _).drew
        have hown4 : (w3.setCell ⟨g3, n, none⟩ (.int .i64 (u + m))).drew.ownsRow w2.heap.size 3 1 (.slice (some ⟨g3, 0, none⟩) l.length cap3) l.length ((used.set n (used.getD n 0 + m)).map (.int .i64)) := by
         have h5 := HOW.out.stored n (.int .i64 (u + m))
         rw [HGD.out, List.map_set]; exact owns_ext h5.1 ((Ext.refl _).drew)
        have hul4 : l.length = (used.set n (used.getD n 0 + m)).length := by rw [List.length_set, HUL.out]
        have HOW4 := Lib.hid hown4
        have HUL4 := Lib.hid hul4
        generalize hw4 : (w3.setCell ⟨g3, n, none⟩ (.int .i64 (u + m))).drew = w4 at *
        have HN4 := Lib.hid (hN.out.ext (HJ.out _) hx4)
        have HS13 := Lib.hid (fun W (h : Ext w4 W) => (⟨h.cell HN4.out.di.c, h.cell HN4.out.n0, h.cell HN4.out.n1⟩ : (fun w' => w'.cell? ⟨cb, 0, none⟩ = some (.func (.func 105) #[] #[.pointer (some ⟨tb, 0, none⟩), .pointer (some ⟨yb, 0, none⟩), .pointer (some ⟨cb, 0, none⟩), .pointer (some ⟨lb, 0, none⟩), .pointer (some ⟨bb, 0, none⟩)]) ∧ w'.cell? ⟨A.heap.size, 0, none⟩ = some (.slice oa now.1.length oc) ∧ w'.cell? ⟨A.heap.size, 1, none⟩ = some (.int .i64 now.2)) W))
        clear hw4 hown4 hul4 hc3 hf3 hm3
        go_upto_region 13 with fail
        refine wp_region_held_drew (S := (fun w' => w'.cell? ⟨cb, 0, none⟩ = some (.func (.func 105) #[] #[.pointer (some ⟨tb, 0, none⟩), .pointer (some ⟨yb, 0, none⟩), .pointer (some ⟨cb, 0, none⟩), .pointer (some ⟨lb, 0, none⟩), .pointer (some ⟨bb, 0, none⟩)]) ∧ w'.cell? ⟨A.heap.size, 0, none⟩ = some (.slice oa now.1.length oc) ∧ w'.cell? ⟨A.heap.size, 1, none⟩ = some (.int .i64 now.2))) (by kernel_rfl) ?_ (fun hHeld => ?_)
        ·exact HS13.out _ (by repeat (first | exact hxe | exact Ext.refl _ | apply Ext.drew | apply Ext.alloc))
        refine hTk (i := 0) (d := some 81) (v := ?_) (fun o ho => ?_) hHeld ?_
        rotate_left
        ·simp only [zA, zB, zD] at ho
         subst ho
         refine ⟨by rfl, fun w hSw => ?_⟩
         (try dsimp only at hSw)
         go_simp
         try with_reducible rfl
        try simp only [Act.put, yA, yB, yC]
        refine hTk (i := 1) (d := some 82) (v := ?_) (fun o ho => ?_) hHeld ?_
        rotate_left
        ·simp only [zA, zB, zC, zD] at ho
         subst ho
         refine ⟨by rfl, fun w hSw => ?_⟩
         (try dsimp only at hSw)
         go_simp
         try with_reducible rfl
        try simp only [Act.put, yA, yB, yC]
        refine hTk (i := 2) (d := some 83) (v := ?_) (fun o ho => ?_) hHeld ?_
        rotate_left
        ·simp only [zA, zB, zC, zD] at ho
         subst ho
         refine ⟨by rfl, fun w hSw => ?_⟩
         (try dsimp only at hSw)
         go_simp
         try with_reducible rfl
        try simp only [Act.put, yA, yB, yC]
        refine hTk (i := 4) (d := some 85) (v := ?_) (fun o ho => ?_) hHeld ?_
        rotate_left
        ·simp only [zA, zB, zC, zD] at ho
         subst ho
         refine ⟨by rfl, fun w hSw => ?_⟩
         (try dsimp only at hSw)
         go_simp
         try with_reducible rfl
        try simp only [Act.put, yA, yB, yC]
        refine hTk (i := 7) (d := some 88) (v := ?_) (fun o ho => ?_) hHeld ?_
        rotate_left
        ·simp only [zA, zB, zC, zD] at ho
         subst ho
         refine ⟨by rfl, fun w hSw => ?_⟩
         (try dsimp only at hSw)
         go_simp
         try with_reducible rfl
        try simp only [Act.put, yA, yB, yC]
        refine hTk (i := 8) (d := some 89) (v := ?_) (fun o ho => ?_) hHeld ?_
        rotate_left
        ·simp only [zA, zB, zC, zD] at ho
         subst ho
         refine ⟨by rfl, fun w hSw => ?_⟩
         (try dsimp only at hSw)
         go_simp
         try with_reducible rfl
        try simp only [Act.put, yA, yB, yC]
        refine hTk (i := 10) (d := some 91) (v := ?_) (fun o ho => ?_) hHeld ?_
        rotate_left
        ·simp only [zA, zB, zC, zD] at ho
         subst ho
         refine ⟨by rfl, fun w hSw => ?_⟩
         (try dsimp only at hSw)
         go_simp
         try with_reducible rfl
        try simp only [Act.put, yA, yB, yC]
        refine wpAnyH_ready (rs := [3, 5]) (by kernel_rfl) (by simp) ?_
        refine held_step (i := 3) (by kernel_rfl) (fun o ho K' hK => ?_) ?_
        ·simp only [zA, zB, zC, zD] at ho
         subst ho
         go_simp
         go_at_call 106
         refine (HC.out w4.drew (IntsAt.ext HN4.out.ints (by repeat (first | exact Ext.refl _ | apply Ext.drew | apply Ext.alloc)))).mono ?_
         rintro e w1 ⟨cv, rfl, own1, hx1⟩
         have hxe : Ext w4 w1 := (by repeat (first | exact Ext.refl _ | apply Ext.drew | apply Ext.alloc) : Ext w4 w4.drew).trans hx1
         have hlow : w4.heap.size ≤ w4.drew.heap.size := (by repeat (first | exact Ext.refl _ | apply Ext.drew | apply Ext.alloc) : Ext w4 w4.drew).size
         obtain ⟨ca, cc, rfl, _⟩ := RowAt.open (RowAt.of_owns own1)
         try go_simp
         refine hK.out _ _ ?_ (fun hHeld => ?_)
         ·exact HS13.out _ (by repeat (first | exact hxe | exact Ext.refl _ | apply Ext.drew | apply Ext.alloc))
         clear hK K'
         try simp only [yA, yB, yC]
         refine wpAnyH_ready (rs := [5]) (by kernel_rfl) (by simp) ?_
         refine held_step (i := 5) (by kernel_rfl) (fun o ho K' hK => ?_) ?_
         ·simp only [zA, zB, zC, zD] at ho
          subst ho
          go_simp
          refine hK.out _ _ ?_ (fun hHeld => ?_)
          ·exact HS13.out _ (by repeat (first | exact hxe | exact Ext.refl _ | apply Ext.drew | apply Ext.alloc))
          clear hK K'
          try simp only [yA, yB, yC]
          refine wpAnyH_ready (rs := [6]) (by kernel_rfl) (by simp) ?_
          refine held_step (i := 6) (by kernel_rfl) (fun o ho K' hK => ?_) ?_
          ·simp only [zA, zB, zC, zD] at ho
           subst ho
           refine step_append_row E_ints (by rfl) _ _ (by rfl) _ (by rfl) (own1.alloc (Obj.cells #[.int .i64 n] 3)) (by rfl) (RowAt.new1 w1 #[.int .i64 n] 3) (by rfl) (by simp [Value.oneCell']) HSZ.out.1 HSZ.out.2 (Nat.le_trans hx1.size ((Ext.refl w1).alloc _).size) ?_
           intro v2 w6 hown2 hgrow _
           have hx02 : Ext w4 w6 := Ext.grown (hxe.alloc _) hgrow (fun k hk => Nat.le_trans hlow (owns_block own1 k hk))
           have HDI := Lib.hid (DealIn.of_owns (O1 := O2) (xs := now.1 ++ [(n : Int)]) (r := now.2) (by simpa using hown2) (by simp) (fun i hi => Nat.lt_of_lt_of_le ((fun i hi => HN4.out.di.olt i hi) i hi) hlow))
           obtain ⟨a2, c2, rfl, _⟩ := RowAt.open (RowAt.of_owns hown2)
           clear hxe
           have hxe := hx02
           clear hx02 hown2 hgrow own1
           refine hK.out _ _ ?_ (fun hHeld => ?_)
           ·exact HS13.out _ (by repeat (first | exact hxe | exact Ext.refl _ | apply Ext.drew | apply Ext.alloc))
           clear hK K'
           refine hTk (i := 9) (d := some 90) (v := ?_) (fun o ho => ?_) hHeld ?_
           rotate_left
           ·simp only [zA, zB, zC, zD] at ho
            subst ho
            refine ⟨by rfl, fun w hSw => ?_⟩
            (try dsimp only at hSw)
            go_simp
            try with_reducible rfl
           try simp only [Act.put, yA, yB, yC]
           refine wpAnyH_ready (rs := [11]) (by kernel_rfl) (by simp) ?_
           refine held_step (i := 11) (by kernel_rfl) (fun o ho K' hK => ?_) ?_
           ·simp only [zA, zB, zC, zD] at ho
            subst ho
            go_simp
            go_at_call 105
            have hu9 : IntsAt w6 (.slice (some ⟨g3, 0, none⟩) l.length cap3) (used.set n (used.getD n 0 + m)) := by have h := RowAt.of_owns (owns_ext HOW4.out hxe); unfold IntsAt; rw [← HUL4.out]; exact h
            have ho9 : OffV (fun i => O2 i ∨ w6.heap.size ≤ i) (.slice (some ⟨g3, 0, none⟩) l.length cap3) := IntsAt.off_owns (owns_ext HOW4.out hxe) (fun i hi => Nat.lt_of_lt_of_le (HN2.out.di.olt i hi) (Nat.le_refl _))
            refine (callsIn_wide.1 (HRECN.out n O2 w4 w6 _ _ hlt HAT.out HN4.out hxe HDI.out hu9 ho9)).mono ?_
            rintro e w5 ⟨b', O3, rfl, hT5, hO5, hj5, hjx5⟩
            have hT6 := (Touch.of_ext hxe).trans hT5
            have hO6 : ∀ i, O3 i → (O2 i ∨ w4.heap.size ≤ i) ∧ i < w5.heap.size := fun i hi => ⟨(hO5 i hi).1.imp id (fun h => Nat.le_trans hxe.size h), (hO5 i hi).2⟩
            have HP := Lib.hid (show (b' = true → DNode b (.slice ra b.rivers.length rc) (.slice (some ⟨qb, qo, none⟩) l.length lc) (.slice (some ⟨kb, ko, none⟩) all.length kc) (.slice oa now.1.length oc) (.slice (some ⟨ub, uo, none⟩) l.length uc) w0 bb lb tb yb cb ly (⟨(r : Int), (lo : Int), (hi : Int), m⟩ : Take) now used O A (J (k + dealCnt b l (⟨(r : Int), (lo : Int), (hi : Int), m⟩ : Take) rest now used (n + 1))) O3 w5) ∧ (b' = false → Jx w5) from ⟨fun h => HN4.out.post HOA.out hT6 hO6 (hj5 h), hjx5⟩)
            have HT6 := Lib.hid (show Touch O A w5 ∧ ∀ i, O3 i → (O i ∨ A.heap.size ≤ i) ∧ i < w5.heap.size from ⟨Touch.of_new (N := fun i => O i ∨ A.heap.size + 2 ≤ i) ((HN4.out.tch.mono (fun i hi => .inl hi)).trans (hT6.mono HN4.out.low)) (fun i hi hl => hi.elim id (fun h => by omega)), fun i hi => ⟨(hO6 i hi).1.elim (fun h => (HN4.out.low i h).imp id (fun h => by omega)) (fun h => .inr (Nat.le_trans HN4.out.tch.size h)), (hO6 i hi).2⟩⟩)
            have hcb : w5.cell? ⟨cb, 0, none⟩ = some (.func (.func 105) #[] #[.pointer (some ⟨tb, 0, none⟩), .pointer (some ⟨yb, 0, none⟩), .pointer (some ⟨cb, 0, none⟩), .pointer (some ⟨lb, 0, none⟩), .pointer (some ⟨bb, 0, none⟩)]) := hT5.cell (HS13.out w6 hxe).1 HN4.out.di.oc
            have hnn : ¬ O2 A.heap.size := fun h => by rcases HN4.out.low _ h with h | h; have := HOA.out _ h; omega; omega
            clear hT6 hO6 hj5 hjx5 hu9 ho9
            try go_simp
            refine hK.out _ _ ?_ (fun hHeld => ?_)
            ·exact ⟨hcb, hT5.cell (HS13.out w6 hxe).2.1 hnn, hT5.cell (HS13.out w6 hxe).2.2 hnn⟩
            clear hK K'
            try simp only [yA, yB, yC]
            refine hTk (i := 12) (d := some 93) (v := ?_) (fun o ho => ?_) hHeld ?_
            rotate_left
            ·simp only [zA, zB, zC, zD] at ho
             subst ho
             refine ⟨by rfl, fun w hSw => ?_⟩
             (try dsimp only at hSw)
             go_simp
             try with_reducible rfl
            try simp only [Act.put, yA, yB, yC]
            refine wpAnyH_done (by kernel_rfl) ?_ _
            try simp only [yA, yB, yC]
            clear hHeld hcb hT5 hO5
            cases b' with
            | false =>
             have HF := Lib.hid (show YRes O (J (k + (dealsFrom b l ((⟨(r : Int), (lo : Int), (hi : Int), m⟩ : Take) :: rest) now used).length)) Jx A (.returned (.bool false)) w5 from ⟨false, O3, rfl, HT6.out.1, HT6.out.2, (fun h => by cases h), fun _ => HP.out.2 rfl⟩)
             go_wp2_with fail
             go_ret
             exact HF.out
            | true =>
             have HQ := Lib.hid (HP.out.1 rfl)
             go_wp2_with fail
             go_roundw
             case rel => exact ⟨n + 1, O3, by omega, by go_num, HQ.out⟩
             case measure => simp [intOf]; omega
           exact AllReadyH.nil
          exact AllReadyH.nil
         exact AllReadyH.nil
        refine held_step (i := 5) (by kernel_rfl) (fun o ho K' hK => ?_) ?_
        ·simp only [zA, zB, zC, zD] at ho
         subst ho
         go_simp
         refine hK.out _ _ ?_ (fun hHeld => ?_)
         ·exact HS13.out _ (by repeat (first | exact hxe | exact Ext.refl _ | apply Ext.drew | apply Ext.alloc))
         clear hK K'
         try simp only [yA, yB, yC]
         refine wpAnyH_ready (rs := [3]) (by kernel_rfl) (by simp) ?_
         refine held_step (i := 3) (by kernel_rfl) (fun o ho K' hK => ?_) ?_
         ·simp only [zA, zB, zC, zD] at ho
          subst ho
          go_simp
          go_at_call 106
          refine (HC.out (w4.drew.alloc (.cells #[.int .i64 n] 3)) (IntsAt.ext HN4.out.ints (by repeat (first | exact Ext.refl _ | apply Ext.drew | apply Ext.alloc)))).mono ?_
          rintro e w1 ⟨cv, rfl, own1, hx1⟩
          have hxe : Ext w4 w1 := (by repeat (first | exact Ext.refl _ | apply Ext.drew | apply Ext.alloc) : Ext w4 (w4.drew.alloc (.cells #[.int .i64 n] 3))).trans hx1
          have hlow : w4.heap.size ≤ (w4.drew.alloc (.cells #[.int .i64 n] 3)).heap.size := (by repeat (first | exact Ext.refl _ | apply Ext.drew | apply Ext.alloc) : Ext w4 (w4.drew.alloc (.cells #[.int .i64 n] 3))).size
          obtain ⟨ca, cc, rfl, _⟩ := RowAt.open (RowAt.of_owns own1)
          try go_simp
          refine hK.out _ _ ?_ (fun hHeld => ?_)
          ·exact HS13.out _ (by repeat (first | exact hxe | exact Ext.refl _ | apply Ext.drew | apply Ext.alloc))
          clear hK K'
          try simp only [yA, yB, yC]
          refine wpAnyH_ready (rs := [6]) (by kernel_rfl) (by simp) ?_
          refine held_step (i := 6) (by kernel_rfl) (fun o ho K' hK => ?_) ?_
          ·simp only [zA, zB, zC, zD] at ho
           subst ho
           refine step_append_row E_ints (by rfl) _ _ (by rfl) _ (by rfl) own1 (by rfl) ((RowAt.new1 w4.drew #[.int .i64 n] 3).ext hx1) (by rfl) (by simp [Value.oneCell']) HSZ.out.1 HSZ.out.2 hx1.size ?_
           intro v2 w6 hown2 hgrow _
           have hx02 : Ext w4 w6 := Ext.grown hxe hgrow (fun k hk => Nat.le_trans hlow (owns_block own1 k hk))
           have HDI := Lib.hid (DealIn.of_owns (O1 := O2) (xs := now.1 ++ [(n : Int)]) (r := now.2) (by simpa using hown2) (by simp) (fun i hi => Nat.lt_of_lt_of_le ((fun i hi => HN4.out.di.olt i hi) i hi) hlow))
           obtain ⟨a2, c2, rfl, _⟩ := RowAt.open (RowAt.of_owns hown2)
           clear hxe
           have hxe := hx02
           clear hx02 hown2 hgrow own1
           refine hK.out _ _ ?_ (fun hHeld => ?_)
           ·exact HS13.out _ (by repeat (first | exact hxe | exact Ext.refl _ | apply Ext.drew | apply Ext.alloc))
           clear hK K'
           refine hTk (i := 9) (d := some 90) (v := ?_) (fun o ho => ?_) hHeld ?_
           rotate_left
           ·simp only [zA, zB, zC, zD] at ho
            subst ho
            refine ⟨by rfl, fun w hSw => ?_⟩
            (try dsimp only at hSw)
            go_simp
            try with_reducible rfl
           try simp only [Act.put, yA, yB, yC]
           refine wpAnyH_ready (rs := [11]) (by kernel_rfl) (by simp) ?_
           refine held_step (i := 11) (by kernel_rfl) (fun o ho K' hK => ?_) ?_
           ·simp only [zA, zB, zC, zD] at ho
            subst ho
            go_simp
            go_at_call 105
            have hu9 : IntsAt w6 (.slice (some ⟨g3, 0, none⟩) l.length cap3) (used.set n (used.getD n 0 + m)) := by have h := RowAt.of_owns (owns_ext HOW4.out hxe); unfold IntsAt; rw [← HUL4.out]; exact h
            have ho9 : OffV (fun i => O2 i ∨ w6.heap.size ≤ i) (.slice (some ⟨g3, 0, none⟩) l.length cap3) := IntsAt.off_owns (owns_ext HOW4.out hxe) (fun i hi => Nat.lt_of_lt_of_le (HN2.out.di.olt i hi) (Nat.le_refl _))
            refine (callsIn_wide.1 (HRECN.out n O2 w4 w6 _ _ hlt HAT.out HN4.out hxe HDI.out hu9 ho9)).mono ?_
            rintro e w5 ⟨b', O3, rfl, hT5, hO5, hj5, hjx5⟩
            have hT6 := (Touch.of_ext hxe).trans hT5
            have hO6 : ∀ i, O3 i → (O2 i ∨ w4.heap.size ≤ i) ∧ i < w5.heap.size := fun i hi => ⟨(hO5 i hi).1.imp id (fun h => Nat.le_trans hxe.size h), (hO5 i hi).2⟩
            have HP := Lib.hid (show (b' = true → DNode b (.slice ra b.rivers.length rc) (.slice (some ⟨qb, qo, none⟩) l.length lc) (.slice (some ⟨kb, ko, none⟩) all.length kc) (.slice oa now.1.length oc) (.slice (some ⟨ub, uo, none⟩) l.length uc) w0 bb lb tb yb cb ly (⟨(r : Int), (lo : Int), (hi : Int), m⟩ : Take) now used O A (J (k + dealCnt b l (⟨(r : Int), (lo : Int), (hi : Int), m⟩ : Take) rest now used (n + 1))) O3 w5) ∧ (b' = false → Jx w5) from ⟨fun h => HN4.out.post HOA.out hT6 hO6 (hj5 h), hjx5⟩)
            have HT6 := Lib.hid (show Touch O A w5 ∧ ∀ i, O3 i → (O i ∨ A.heap.size ≤ i) ∧ i < w5.heap.size from ⟨Touch.of_new (N := fun i => O i ∨ A.heap.size + 2 ≤ i) ((HN4.out.tch.mono (fun i hi => .inl hi)).trans (hT6.mono HN4.out.low)) (fun i hi hl => hi.elim id (fun h => by omega)), fun i hi => ⟨(hO6 i hi).1.elim (fun h => (HN4.out.low i h).imp id (fun h => by omega)) (fun h => .inr (Nat.le_trans HN4.out.tch.size h)), (hO6 i hi).2⟩⟩)
            have hcb : w5.cell? ⟨cb, 0, none⟩ = some (.func (.func 105) #[] #[.pointer (some ⟨tb, 0, none⟩), .pointer (some ⟨yb, 0, none⟩), .pointer (some ⟨cb, 0, none⟩), .pointer (some ⟨lb, 0, none⟩), .pointer (some ⟨bb, 0, none⟩)]) := hT5.cell (HS13.out w6 hxe).1 HN4.out.di.oc
            have hnn : ¬ O2 A.heap.size := fun h => by rcases HN4.out.low _ h with h | h; have := HOA.out _ h; omega; omega
            clear hT6 hO6 hj5 hjx5 hu9 ho9
            try go_simp
            refine hK.out _ _ ?_ (fun hHeld => ?_)
            ·exact ⟨hcb, hT5.cell (HS13.out w6 hxe).2.1 hnn, hT5.cell (HS13.out w6 hxe).2.2 hnn⟩
            clear hK K'
            try simp only [yA, yB, yC]
            refine hTk (i := 12) (d := some 93) (v := ?_) (fun o ho => ?_) hHeld ?_
            rotate_left
            ·simp only [zA, zB, zC, zD] at ho
             subst ho
             refine ⟨by rfl, fun w hSw => ?_⟩
             (try dsimp only at hSw)
             go_simp
             try with_reducible rfl
            try simp only [Act.put, yA, yB, yC]
            refine wpAnyH_done (by kernel_rfl) ?_ _
            try simp only [yA, yB, yC]
            clear hHeld hcb hT5 hO5
            cases b' with
            | false =>
             have HF := Lib.hid (show YRes O (J (k + (dealsFrom b l ((⟨(r : Int), (lo : Int), (hi : Int), m⟩ : Take) :: rest) now used).length)) Jx A (.returned (.bool false)) w5 from ⟨false, O3, rfl, HT6.out.1, HT6.out.2, (fun h => by cases h), fun _ => HP.out.2 rfl⟩)
             go_wp2_with fail
             go_ret
             exact HF.out
            | true =>
             have HQ := Lib.hid (HP.out.1 rfl)
             go_wp2_with fail
             go_roundw
             case rel => exact ⟨n + 1, O3, by omega, by go_num, HQ.out⟩
             case measure => simp [intOf]; omega
           exact AllReadyH.nil
          exact AllReadyH.nil
         exact AllReadyH.nil
        exact AllReadyH.nil
       exact AllReadyH.nil
    ·have t1 : decide ((n : Int) < (l.length : Int)) = false := by simp; omega
     have hnl : n = l.length := by omega
     subst hnl
     have HF := Lib.hid (show YRes O (J (k + (dealsFrom b l ((⟨(r : Int), (lo : Int), (hi : Int), m⟩ : Take) :: rest) now used).length)) Jx A (.returned (.bool true)) wr by
      have h5 := hN.out
      rw [HALL.out] at h5
      exact ⟨true, O2, rfl, h5.tch, fun i hi => ⟨(h5.low i hi).imp id (fun h => by omega), h5.di.olt i hi⟩, fun _ => h5.di.j, fun h => by cases h⟩)
     clear hN hlt
     go_wp2
     go_ret
     exact HF.out
end Go.Proofs.YtiodjapdiflphaaGreatDoor
