/- The best question of a list. -/
import Derived.Test.YtokananogogjaaaGreatDoorOm
namespace Go.Proofs.YtokananogogjaaaGreatDoor
open Go.RowKit
theorem bestOf_one {α : Type} {lt : α → α → Bool} {l : List α} {x : α} (h : l[0]? = some x) : bestOf lt (l.take 1) = some x := by
 cases l with
 | nil => simp at h
 | cons y l => simp at h; subst h; simp [bestOf]
theorem bestOf_more {α : Type} {lt : α → α → Bool} {l : List α} {k : Nat} {x y : α} (h : l[k]? = some x) (hy : bestOf lt (l.take k) = some y) : bestOf lt (l.take (k + 1)) = some (if lt x y then x else y) := by
 cases l with
 | nil => simp at h
 | cons z l =>
  cases k with
  | zero => simp [bestOf] at hy
  | succ k =>
   simp only [List.take_succ_cons, bestOf, Option.some.injEq] at hy ⊢
   simp only [List.getElem?_cons_succ] at h
   rw [List.take_add_one, h, Option.toList_some, List.foldl_append, hy]
   rfl
/-! ### Three cells -/
theorem cells3 {W : World} {k : Nat} {z0 z1 z2 : Value} {t : TypeId} (h : W.heap[k]? = some (.cells #[z0, z1, z2] t)) : (W.cell? ⟨k, 0, none⟩ = some z0 ∧ W.cell? ⟨k, 1, none⟩ = some z1 ∧ W.cell? ⟨k, 2, none⟩ = some z2) ∧ (W.frozen? ⟨k, 0, none⟩ = false ∧ W.frozen? ⟨k, 1, none⟩ = false ∧ W.frozen? ⟨k, 2, none⟩ = false) := by
 unfold World.cell? World.frozen?
 simp only [h]
 simp
theorem store3 {W : World} {k : Nat} {z0 z1 z2 : Value} {t : TypeId} (h : W.heap[k]? = some (.cells #[z0, z1, z2] t)) (a0 a1 a2 : Value) : (((W.setCell ⟨k, 0, none⟩ a0).setCell ⟨k, 1, none⟩ a1).setCell ⟨k, 2, none⟩ a2).heap[k]? = some (.cells #[a0, a1, a2] t) := by
 have h1 := heap_setCell_same W k 0 _ t a0 h
 have h2 := heap_setCell_same _ k 1 _ t a1 h1
 exact heap_setCell_same _ k 2 _ t a2 h2
theorem touch3 (W : World) (k : Nat) (a0 a1 a2 : Value) : Touch (fun i => i = k) W (((W.setCell ⟨k, 0, none⟩ a0).setCell ⟨k, 1, none⟩ a1).setCell ⟨k, 2, none⟩ a2) :=
 ((Touch.setCell (M := fun i => i = k) _ rfl).trans (Touch.setCell _ rfl)).trans (Touch.setCell _ rfl)
abbrev Quest := Int × Int × Int
def qstC (q : Quest) : List Value := [.int .i64 q.1, .int .i64 q.2.1, .int .i64 q.2.2]
def ltQ (x y : Quest) : Bool := decide (x.2.2 < y.2.2)
theorem ask1_any (x y : Quest) (w : World) : Calls Tryz.prog 59 #[.agg #[.int .i64 x.1, .int .i64 x.2.1, .int .i64 x.2.2], .agg #[.int .i64 y.1, .int .i64 y.2.1, .int .i64 y.2.2]] w fun e w' => e = .returned (.bool (ltQ x y)) ∧ Ext w w' := by
 go_enter Tryz.func59, Tryz.ntmps59
 go_wp2
 go_ret
 exact ⟨rfl, ((Ext.refl w).alloc _).alloc _⟩
theorem enters_ask1 : ∀ args w, (callFunc 59 args).run Tryz.prog w = .ok (.enter 59 args) w := enters_of Tryz.func59 (by kernel_rfl) rfl
set_option maxRecDepth 100000 in
set_option maxHeartbeats 4000000 in
theorem bestq_any (v : Value) (qs : List Quest) (w : World) (hq : RowOf qstC w v qs) (h0 : 0 < qs.length) :
 Calls Tryz.prog 58 #[v, .func (.func 59) #[] #[]] w fun e w' => ∃ x : Quest, bestOf ltQ qs = some x ∧ e = .returned (.tuple #[.agg #[.int .i64 x.1, .int .i64 x.2.1, .int .i64 x.2.2], .bool true]) ∧ Ext w w' := by
 have ea := enters_ask1
 obtain ⟨va, vc, rfl, l1, l2, l3⟩ := RowOf.open3 (f := qstC) (fun _ => rfl) hq
 have HL3 := Lib.hid l3
 obtain ⟨W, hW⟩ : ∃ W, W = (w.alloc (.cells #[.int .i64 0, .int .i64 0, .int .i64 0] 111)).alloc (.cells #[.int .i64 0, .int .i64 0, .int .i64 0] 111) := ⟨_, rfl⟩
 have hz4 : W.heap[w.heap.size]? = some (.cells #[.int .i64 0, .int .i64 0, .int .i64 0] 111) := by rw [hW]; exact (((Ext.refl (w.alloc (.cells #[.int .i64 0, .int .i64 0, .int .i64 0] 111))).alloc _).block (by simp)).trans (World.alloc_heap_new _ _)
 have hz6 : W.heap[w.heap.size + 1]? = some (.cells #[.int .i64 0, .int .i64 0, .int .i64 0] 111) := by
  rw [hW]; have := World.alloc_heap_new (w.alloc (.cells #[.int .i64 0, .int .i64 0, .int .i64 0] 111)) (.cells #[.int .i64 0, .int .i64 0, .int .i64 0] 111); rwa [World.size_alloc] at this
 have HX0 := Lib.hid (show Ext w W by rw [hW]; exact ((Ext.refl w).alloc _).alloc _)
 clear l3 hq
 go_enter Tryz.func58, Tryz.ntmps58
 go_upto_region 2 with fail
 rw [← hW]
 clear hW
 go_wp2
 go_loopw [11] (fun i wr => ∃ (k : Nat) (q0 q1 q2 : Int), k ≤ qs.length ∧ i = .int .i64 (k : Int) ∧ Hid (0 < k → bestOf ltQ (qs.take k) = some (q0, q1, q2)) ∧ Ext w wr ∧ Hid (wr.heap[w.heap.size]? = some (.cells #[.int .i64 0, .int .i64 0, .int .i64 0] 111)) ∧ Hid (wr.heap[w.heap.size + 1]? = some (.cells #[.int .i64 q0, .int .i64 q1, .int .i64 q2] 111))) (fun i _ => qs.length - (intOf i).toNat)
 case atStart => exact ⟨0, 0, 0, 0, Nat.zero_le _, rfl, fun h => absurd h (Nat.lt_irrefl _), HX0.out, hz4, hz6⟩
 case round =>
  obtain ⟨k, q0, q1, q2, hk, rfl, hbo, hx, h4, h6⟩ := hrel
  by_cases hlt : k < qs.length
  ·obtain ⟨bb, bo, p, rfl, hpk, c0, c1, c2⟩ := HL3.out k hlt
   have d0 := hx.cell c0
   have d1 := hx.cell c1
   have d2 := hx.cell c2
   have k1 : (0 : Int) ≤ (k : Int) := by omega
   have k2 : (k : Int) < (qs.length : Int) := by omega
   have hsz : w.heap.size + 1 < wr.heap.size := (Array.getElem?_eq_some_iff.1 h6.out).1
   obtain ⟨W1, hW1⟩ : ∃ W1, W1 = wr.alloc (.cells #[.int .i64 p.1, .int .i64 p.2.1, .int .i64 p.2.2] 111) := ⟨_, rfl⟩
   have hx1 : Ext wr W1 := by rw [hW1]; exact (Ext.refl wr).alloc _
   have g0 : W1.cell? ⟨wr.heap.size, 0, none⟩ = some (.int .i64 p.1) := by rw [hW1]; go_simp
   have g1 : W1.cell? ⟨wr.heap.size, 1, none⟩ = some (.int .i64 p.2.1) := by rw [hW1]; go_simp
   have g2 : W1.cell? ⟨wr.heap.size, 2, none⟩ = some (.int .i64 p.2.2) := by rw [hW1]; go_simp
   have HST := Lib.hid (fun (W2 : World) (h : Ext wr W2) (a0 a1 a2 : Value) => (⟨store3 ((h.block (by omega)).trans h6.out) a0 a1 a2, ((touch3 W2 (w.heap.size + 1) a0 a1 a2).keep _ _ ((h.block (by omega)).trans h4.out) (by omega)), Touch.ext (hx.trans h) (touch3 W2 (w.heap.size + 1) a0 a1 a2) (fun i hi => by omega)⟩ : _ ∧ _ ∧ _))
   have HKP := Lib.hid (fun (W2 : World) (h : Ext wr W2) => (⟨hx.trans h, (h.block (by omega)).trans h4.out, (h.block (by omega)).trans h6.out⟩ : _ ∧ _ ∧ _))
   clear c0 c1 c2 h4 hx
   cases hk0 : decide (k = 0) with
   | true =>
    have hk0' : k = 0 := by simpa using hk0
    have t0 : ((k : Int) == 0) = true := by rw [hk0']; rfl
    have t1 : (k == 0) = true := by rw [hk0']; rfl
    have HB := Lib.hid (show bestOf ltQ (qs.take (k + 1)) = some p by have h := hpk.out; rw [hk0'] at h ⊢; exact bestOf_one h)
    obtain ⟨⟨y0, y1, y2⟩, x0, x1, x2⟩ := cells3 ((hx1.block (by omega)).trans h6.out)
    have HQ := Lib.hid (HST.out W1 hx1 (.int .i64 p.1) (.int .i64 p.2.1) (.int .i64 p.2.2))
    clear HST HKP h6 hbo hpk hk0 hk0'
    go_upto_region 5 with fail
    rw [← hW1]
    clear hW1
    go_wp2
    go_roundw
    case rel => exact ⟨k + 1, p.1, p.2.1, p.2.2, by omega, by go_num, fun _ => HB.out, HQ.out.2.2, HQ.out.2.1, HQ.out.1⟩
    case measure => simp [intOf]; omega
   | false =>
    have hk0' : 0 < k := by have : ¬ k = 0 := by simpa using hk0
                            omega
    have t0 : ((k : Int) == 0) = false := by rw [beq_eq_false_iff_ne]; omega
    have t1 : (k == 0) = false := by rw [beq_eq_false_iff_ne]; omega
    have HB := Lib.hid (bestOf_more (lt := ltQ) hpk.out (hbo.out hk0'))
    obtain ⟨⟨y0, y1, y2⟩, _⟩ := cells3 ((hx1.block (by omega)).trans h6.out)
    have HC := Lib.hid (fun (W2 : World) (h : Ext W1 W2) => (⟨h.cell g0, h.cell g1, h.cell g2, cells3 (((hx1.trans h).block (by omega)).trans h6.out)⟩ : _ ∧ _ ∧ _ ∧ _))
    have HAK := Lib.hid (fun W2 => ask1_any p (q0, q1, q2) W2)
    have HX1 := Lib.hid hx1
    simp only at HAK
    clear hbo hpk hk0 hk0' h6 hx1
    cases hlq : ltQ p (q0, q1, q2) with
    | true =>
     rw [hlq] at HAK
     rw [hlq, if_pos rfl] at HB
     clear HKP hlq
     go_upto_region 5 with fail
     rw [← hW1]
     clear hW1
     go_wp2_with (refine Calls.mono (HAK.out _) ?_; rintro e w2 ⟨rfl, hx2⟩; clear g0 g1 g2 y0 y1 y2; obtain ⟨g0, g1, g2, ⟨y0, y1, y2⟩, x0, x1, x2⟩ := HC.out _ hx2; have HQ := Lib.hid (HST.out w2 (HX1.out.trans hx2) (.int .i64 p.1) (.int .i64 p.2.1) (.int .i64 p.2.2)))
     go_roundw
     case rel => exact ⟨k + 1, p.1, p.2.1, p.2.2, by omega, by go_num, fun _ => HB.out, HQ.out.2.2, HQ.out.2.1, HQ.out.1⟩
     case measure => simp [intOf]; omega
    | false =>
     rw [hlq] at HAK
     rw [hlq, if_neg (by decide)] at HB
     clear HST hlq
     go_upto_region 5 with fail
     rw [← hW1]
     clear hW1
     go_wp2_with (refine Calls.mono (HAK.out _) ?_; rintro e w2 ⟨rfl, hx2⟩; have HQ := Lib.hid (HKP.out w2 (HX1.out.trans hx2)))
     go_roundw
     case rel => exact ⟨k + 1, q0, q1, q2, by omega, by go_num, fun _ => HB.out, HQ.out.1, HQ.out.2.1, HQ.out.2.2⟩
     case measure => simp [intOf]; omega
  ·have hke : k = qs.length := by omega
   have hbo2 := hbo.out (by omega)
   rw [List.take_of_length_le (by omega)] at hbo2
   obtain ⟨⟨y0, y1, y2⟩, _⟩ := cells3 h6.out
   obtain ⟨⟨g0, g1, g2⟩, x0, x1, x2⟩ := cells3 h4.out
   have t2 : (0 : Int) < (qs.length : Int) := by omega
   have HST := Lib.hid (⟨store3 h4.out (.int .i64 q0) (.int .i64 q1) (.int .i64 q2), Touch.ext hx (touch3 wr w.heap.size (.int .i64 q0) (.int .i64 q1) (.int .i64 q2)) (fun i hi => by omega)⟩ : _ ∧ _)
   have HBO := Lib.hid hbo2
   clear h4 h6 hbo hbo2 hx
   go_wp2
   obtain ⟨⟨g0, g1, g2⟩, _⟩ := cells3 HST.out.1
   have HX := Lib.hid HST.out.2
   clear HST
   generalize hW6 : (World.setCell _ _ _) = W6 at *
   refine bodyPost_ret (v := .tuple #[.agg #[.int .i64 q0, .int .i64 q1, .int .i64 q2], .bool true]) (by simp [results, Tryz.results58, go_sem, g0, g1, g2]) rfl ⟨_, HBO.out, rfl, HX.out⟩
end Go.Proofs.YtokananogogjaaaGreatDoor

/- Ask. -/
namespace Go.Proofs.YtokananogogjaaaGreatDoor
open Go.RowKit
/-! ### In plain Lean -/
def leftK (b : Book) (e n k : Nat) (g : Int) : Int := ((((pageB b e).take k).filter fun l => l.getD n 0 == g).map (manyB b e)).sum
def leftsK (b : Book) (e n k : Nat) : List Int := (numsOf b.goods.length).map (leftK b e n k)
theorem leftsK_len (b : Book) (e n k : Nat) : (leftsK b e n k).length = b.goods.length := by simp [leftsK, numsOf]
theorem leftsK_zero (b : Book) (e n : Nat) : leftsK b e n 0 = List.replicate b.goods.length 0 := by
 refine List.eq_replicate_iff.2 ⟨leftsK_len _ _ _ _, fun x hx => ?_⟩
 obtain ⟨g, _, rfl⟩ := List.mem_map.1 hx
 simp [leftK]
theorem leftK_succ {b : Book} {e n k : Nat} {l : List Int} (h : (pageB b e)[k]? = some l) (g : Int) : leftK b e n (k + 1) g = leftK b e n k g + if l.getD n 0 = g then manyB b e l else 0 := by
 unfold leftK
 rw [List.take_add_one, h, Option.toList_some, List.filter_append, List.map_append, List.sum_append]
 by_cases hg : l.getD n 0 = g
 ·rw [if_pos hg, List.filter_cons_of_pos (by simpa using hg)]; simp
 ·rw [if_neg hg, List.filter_cons_of_neg (by simpa using hg)]; simp
theorem leftsK_at {b : Book} {e n k : Nat} {x : Nat} (h : x < b.goods.length) : (leftsK b e n k)[x]? = some (leftK b e n k x) := by
 unfold leftsK; rw [List.getElem?_map, numsOf_get h]; rfl
theorem leftsK_succ {b : Book} {e n k : Nat} {l : List Int} {x : Nat} (h : (pageB b e)[k]? = some l) (hx : l.getD n 0 = (x : Int)) : leftsK b e n (k + 1) = (leftsK b e n k).set x (leftK b e n k x + manyB b e l) := by
 apply List.ext_getElem?
 intro j
 by_cases hj : j < b.goods.length
 ·rw [leftsK_at hj, leftK_succ h, hx]
  by_cases hjx : x = j
  ·subst hjx
   rw [List.getElem?_set_self (by rw [leftsK_len]; exact hj), if_pos rfl]
  ·rw [List.getElem?_set_ne hjx, leftsK_at hj, if_neg (by omega), Int.add_zero]
 ·rw [List.getElem?_eq_none (by rw [leftsK_len]; omega), List.getElem?_eq_none (by rw [List.length_set, leftsK_len]; omega)]
theorem leftK_all (b : Book) (e n : Nat) (g : Int) : leftK b e n (pageB b e).length g = leftB b e n g := by unfold leftK leftB; rw [List.take_length]; rfl
theorem leftsK_all (b : Book) (e n : Nat) : leftsK b e n (pageB b e).length = (numsOf b.goods.length).map (leftB b e n) := by
 unfold leftsK; exact List.map_congr_left fun g _ => leftK_all b e n g
theorem leftK_mono (b : Book) (e n : Nat) (g : Int) : ∀ d k, leftK b e n k g ≤ leftK b e n (k + d) g
 | 0, k => Int.le_refl _
 | d + 1, k => by
  refine Int.le_trans (leftK_mono b e n g d k) ?_
  rw [← Nat.add_assoc]
  cases h : (pageB b e)[k + d]? with
  | none =>
   have hl := List.getElem?_eq_none_iff.1 h
   unfold leftK
   rw [List.take_of_length_le hl, List.take_of_length_le (Nat.le_succ_of_le hl)]
   exact Int.le_refl _
  | some l =>
   rw [leftK_succ h]
   have := many_nonneg b e l
   split <;> omega
theorem truths_bd {b : Book} (hB : BookB b) : truthsB b ≤ 1000000000000 := by
 have h := sums_bd (B := 100000000) (xs := (pageB b 0).map (manyB b 0)) (fun x hx => by
  obtain ⟨l, _, rfl⟩ := List.mem_map.1 hx
  exact many0_bd hB l) (by decide) (pageB b 0).length
 rw [List.take_of_length_le (by simp)] at h
 have h2 : (pageB b 0).length ≤ 3125 := Nat.le_trans (List.length_filter_le _ _) (sp_count hB 0)
 unfold truthsB
 omega
theorem leftK_bd {b : Book} (hB : BookB b) {e : Nat} (he : (e : Int) < b.editions) (n k : Nat) (g : Int) : 0 ≤ leftK b e n k g ∧ leftK b e n k g ≤ 1000000000000 := by
 refine ⟨sum_nonneg fun l _ => many_nonneg b e l, ?_⟩
 have h1 := leftK_mono b e n g (pageB b e).length k
 have h2 : leftK b e n (k + (pageB b e).length) g = leftB b e n g := by
  rw [← leftK_all]
  unfold leftK
  rw [List.take_of_length_le (by omega), List.take_length]
 have h3 := left_le he n g
 have h4 := truths_bd hB
 omega
theorem maxOf_maxL (l : List Int) : Go.Lib.maxOf l = maxL l := by
 cases l with
 | nil => rfl
 | cons x l => simp [Go.Lib.maxOf, maxL]
theorem lefts_max (b : Book) (e n : Nat) : Go.Lib.maxOf (leftsK b e n (pageB b e).length) = worstB b e n := by rw [maxOf_maxL, leftsK_all]; rfl
def questTo (b : Book) (q : Nat) : List Value := ((questions b).take q).flatMap qstC
theorem quest_push {b : Book} {e n : Nat} (he : (e : Int) < b.editions) (hn : n < b.goods.length) : questTo b (e * b.goods.length + n + 1) = questTo b (e * b.goods.length + n) ++ [.int .i64 (e : Int), .int .i64 (n : Int), .int .i64 (worstB b e n)] := by
 unfold questTo
 rw [List.take_add_one, quest_at he hn]
 simp [qstC]
theorem rowq_of {b : Book} {W : World} {base : Nat} {v : Value} (hown : W.ownsRow base 111 3 v (questions b).length (questTo b (questions b).length)) : RowOf qstC W v (questions b) := by
 have h := RowAt.of_owns hown
 unfold questTo at h
 rw [List.take_length] at h
 exact h
theorem E_quests : Elem Tryz.prog 108 111 3 24 (.agg #[.int .i64 0, .int .i64 0, .int .i64 0]) := by
 obtain ⟨i, h1, h2, h3, h4⟩ := info_parts (P := Tryz.prog) (e := 111) (z := .agg #[.int .i64 0, .int .i64 0, .int .i64 0]) (size := 3) (bytes := 24) (by kernel_rfl)
 exact ⟨Tryz.underlying108, ⟨i, h1, h2, h3, h4⟩, rfl, by decide⟩
def QRes (b : Book) (w : World) (e : Ending) (w' : World) : Prop :=
 Ext w w' ∧ ((askErr b true ≠ 0 ∧ e = .returned (.tuple #[.int .i64 0, .int .i64 0, .int .i64 0, .int .i64 (askErr b true)])) ∨
  (askErr b true = 0 ∧ truthsB b = 1 ∧ e = .returned (.tuple #[.int .i64 0, .int .i64 0, .int .i64 0, .int .i64 5])) ∨
  (askErr b true = 0 ∧ truthsB b ≠ 1 ∧ e = .returned (.tuple #[.int .i64 (askB b).1, .int .i64 (askB b).2.1, .int .i64 (askB b).2.2, .int .i64 0])))
theorem maxI_any (v : Value) (xs : List Int) (w : World) (hv : IntsAt w v xs) (h0 : 0 < xs.length) (hl : xs.length ≤ 100000) :
  Calls Tryz.prog 57 #[v] w fun e w' => e = .returned (.int .i64 (Go.Lib.maxOf xs)) ∧ w = w' := by
 obtain ⟨a, c, rfl, _, _, h3⟩ := hv.open
 obtain ⟨g, o, x, rfl, _, _⟩ := h3 0 h0
 refine (Go.Proofs.Any.slices_Max_int Tryz.maxI g o xs.length c xs w h0 (Nat.le_refl _) (by omega) (fun j hj => ?_)).mono ?_
 ·obtain ⟨_, _, y, he, hy, hc⟩ := h3 j hj
  cases he
  rw [hc, List.getD_eq_getElem?_getD, hy.out]; rfl
 ·rintro e w' ⟨rfl, rfl⟩
  rw [List.take_length]
  exact ⟨rfl, rfl⟩
theorem madeCells_int (n : Nat) : madeCells (Value.int .i64 0).cells (n * 1) = ((List.replicate n (0 : Int)).map (Value.int .i64)).toArray := by
 apply Array.ext
 ·simp [size_madeCells]
 ·intro i h1 h2
  simp [madeCells]
  show (#[Value.int .i64 0] : Array Value)[i % 1]! = _
  rw [Nat.mod_one]
  rfl
set_option maxRecDepth 100000 in
set_option maxHeartbeats 16000000 in
theorem Ask_any (v : Value) (b : Book) (w : World) (hb : BookAt w v b) : Calls Tryz.prog 32 #[v] w (QRes b w) := by
 have HAS := Lib.hid (fun W1 (h : Ext w W1) => asked5_any v b true W1 (hb.ext h))
 have HBE := Lib.hid (fun W1 (h : Ext w W1) => hb.ext h)
 obtain ⟨ga, gc, ea, ec, rfl, hgl, hel⟩ := hb.open
 obtain ⟨W, hW⟩ : ∃ W, W = w.alloc (bookBox (.slice ga b.goods.length gc) b (.slice ea b.entries.length ec)) := ⟨_, rfl⟩
 have hx0 : Ext w W := by rw [hW]; exact (Ext.refl w).alloc _
 have HX0 := Lib.hid hx0
 have c0 : W.cell? ⟨w.heap.size, 0, none⟩ = some (.slice ga b.goods.length gc) := by rw [hW]; go_simp
 have c1 : W.cell? ⟨w.heap.size, 1, none⟩ = some (.int .i64 b.editions) := by rw [hW]; go_simp
 have c2 : W.cell? ⟨w.heap.size, 2, none⟩ = some (.int .i64 b.moves) := by rw [hW]; go_simp
 have c3 : W.cell? ⟨w.heap.size, 3, none⟩ = some (.slice ea b.entries.length ec) := by rw [hW]; go_simp
 clear hb hx0 hgl hel
 rcases askErr_or b true with ⟨hz, hbk, _, hpg⟩ | hz
 ·have hB := bookB_of hbk
  have HOT := Lib.hid (fun u W1 (h : OpenAt W1 u b) => otruths_any u b W1 hB h)
  rw [hz] at HAS
  have HC := Lib.hid (fun W1 (h : Ext W W1) => (⟨h.cell c0, h.cell c1⟩ : _ ∧ _))
  have hz1 : ∀ q, askErr b true = q → q = 0 := fun q h => by omega
  have HZ1 := Lib.hid hz
  have e1 := hB.e1
  have e3 := hB.e3
  have g2 := hB.g2
  have g5 := hB.g5
  rcases Decidable.em (truthsB b = 1) with ht | ht
  ·have t1 : (truthsB b == 1) = true := by simpa using ht
   have hR : ∀ w', Ext w w' → QRes b w (.returned (.tuple #[.int .i64 0, .int .i64 0, .int .i64 0, .int .i64 5])) w' := fun w' h => ⟨h, .inr (.inl ⟨hz, ht, rfl⟩)⟩
   have HR := Lib.hid hR
   clear hR ht hz hz1
   go_enter Tryz.func32, Tryz.ntmps32
   go_upto_region 1 with fail
   unfold bookBox at hW
   rw [← hW]
   clear hW
   go_wp2_with (first
    | (go_at_call 45; refine (HAS.out _ HX0.out).mono ?_; rintro r w2 ⟨a1, n1, k1, x, y, a2, n2, k2, a3, n3, k3, rfl, hz2, hop⟩; have hx3 : Ext W (w2.alloc (.cells #[.slice a1 n1 k1, .int .i64 x, .int .i64 y, .slice a2 n2 k2, .slice a3 n3 k3] 95)) := hz2.alloc _; have HO3 := Lib.hid (hop rfl _ (HBE.out _ (HX0.out.trans hx3)) (KeepC.of_ext ((Ext.refl w2).alloc _))); clear hop c0 c1 c2 c3)
    | (go_at_call 55; refine (HOT.out _ _ HO3.out).mono ?_; rintro r w4 ⟨rfl, hx4⟩))
   refine bodyPost_ret (v := .tuple #[.int .i64 0, .int .i64 0, .int .i64 0, .int .i64 5]) (by simp [results, Tryz.results32, go_sem]) rfl ?_
   exact HR.out _ (HX0.out.trans (hx3.trans hx4))
  have t1 : (truthsB b == 1) = false := by simpa using ht
  have hR : ∀ w', Ext w w' → QRes b w (.returned (.tuple #[.int .i64 (askB b).1, .int .i64 (askB b).2.1, .int .i64 (askB b).2.2, .int .i64 0])) w' := fun w' h => ⟨h, .inr (.inr ⟨hz, ht, rfl⟩)⟩
  have HR := Lib.hid hR
  obtain ⟨ed, hed⟩ : ∃ ed : Nat, b.editions = ed := ⟨b.editions.toNat, by omega⟩
  have hql : (questions b).length = ed * b.goods.length := by rw [quest_len, hed]; rfl
  have HQL := Lib.hid hql
  have HB := Lib.hid hB
  have HED := Lib.hid hed
  have HLM : Hid (ed ≤ 3 ∧ 1 ≤ ed) := ⟨by omega, by omega⟩
  clear hR ht hz hz1 hql hB hpg hbk hed
  go_enter Tryz.func32, Tryz.ntmps32
  go_upto_region 1 with fail
  unfold bookBox at hW
  rw [← hW]
  clear hW
  go_upto_region 6 with (first
   | (go_at_call 45; refine (HAS.out _ HX0.out).mono ?_; rintro r w2 ⟨a1, n1, k1, x, y, a2, n2, k2, a3, n3, k3, rfl, hz2, hop⟩; have hx3 : Ext W (w2.alloc (.cells #[.slice a1 n1 k1, .int .i64 x, .int .i64 y, .slice a2 n2 k2, .slice a3 n3 k3] 95)) := hz2.alloc _; have HO3 := Lib.hid (hop rfl _ (HBE.out _ (HX0.out.trans hx3)) (KeepC.of_ext ((Ext.refl w2).alloc _))); have q4 : (w2.alloc (.cells #[.slice a1 n1 k1, .int .i64 x, .int .i64 y, .slice a2 n2 k2, .slice a3 n3 k3] 95)).cell? ⟨w2.heap.size, 4, none⟩ = some (.slice a3 n3 k3) := (by go_simp); clear hop c0 c1 c2 c3)
   | (go_at_call 55; refine (HOT.out _ _ HO3.out).mono ?_; rintro r w4 ⟨rfl, hx4⟩))
  have HO4 := Lib.hid (HO3.out.ext hx4)
  have hB := HB.out
  obtain ⟨_, _, _, _, ob, oc, no, hve, hno, hno1, hoc, _, hpr⟩ := HO4.out.open hB
  cases hve
  have q4' := hx4.cell q4
  obtain ⟨c0, c1⟩ := HC.out _ (hx3.trans hx4)
  rw [HED.out] at c1
  have HX4 := Lib.hid (HX0.out.trans (hx3.trans hx4))
  have HCC := Lib.hid (fun (W' : World) (h : Ext w4 W') => (⟨h.cell c0, h.cell c1, h.cell q4'⟩ : _ ∧ _ ∧ _))
  rw [HED.out] at hno hpr
  have hpr2 : ∀ e : Nat, e < ed → ∃ va vc r, PageRow w4 ob b e (.slice va r.length vc) r := fun e he => hpr e (by omega)
  have HPR := Lib.hid hpr2
  have hw2 : w2.heap.size < w4.heap.size := lt_of_cell q4'
  clear hpr hpr2 HO3 HO4 HAS HBE HOT HC HX0 hx3 hx4 q4 hz2 HZ1 hB
  go_wp2
  clear c0 c1 q4'
  go_loopw [8, 29] (fun o j wr => ∃ E : Nat, E ≤ ed ∧ j = .int .i64 (E : Int) ∧ wr.ownsRow w4.heap.size 111 3 o (E * b.goods.length) (questTo b (E * b.goods.length)) ∧ Ext w4 wr) (fun _ j _ => ed - (intOf j).toNat)
  case atStart => exact ⟨0, Nat.zero_le _, rfl, by rw [Nat.zero_mul]; exact World.ownsRow_nil _ _ _ _, Ext.refl _⟩
  case round =>
   obtain ⟨E, hE, rfl, hown, hx⟩ := hrel
   obtain ⟨c0, c1, q4⟩ := HCC.out _ hx
   by_cases hlt : E < ed
   ·have j1 : (0 : Int) ≤ (E : Int) := by omega
    have j2 : (E : Int) < (ed : Int) := by omega
    obtain ⟨va, vc, r, hp⟩ := HPR.out E hlt
    have HP := Lib.hid hp
    have hown0 := hown
    have HX := Lib.hid hx
    clear hp hx
    have hj3 : (E : Int) < (n3 : Int) := by omega
    go_wp2
    obtain ⟨w5, rfl⟩ : ∃ w5 : World, w5 = wr := ⟨_, rfl⟩
    clear c0 c1 q4
    go_loopw [8, 35] (fun o j wr => ∃ N : Nat, N ≤ b.goods.length ∧ j = .int .i64 (N : Int) ∧ wr.ownsRow w4.heap.size 111 3 o (E * b.goods.length + N) (questTo b (E * b.goods.length + N)) ∧ Ext w4 wr) (fun _ j _ => b.goods.length - (intOf j).toNat)
    case atStart => exact ⟨0, Nat.zero_le _, rfl, hown, HX.out⟩
    case round =>
     obtain ⟨N, hN, rfl, hown, hx⟩ := hrel
     obtain ⟨c0, c1, q4⟩ := HCC.out _ hx
     by_cases hlt2 : N < b.goods.length
     ·obtain ⟨ii, hi1, hi2, hi3, hi4⟩ := E_ints.info
      obtain ⟨w6, hrun, hown6, hgr⟩ := run_makeSlice_full (P := Tryz.prog) (w := wr) wr.heap.size 42 3 ii (.int .i64 0) 1 Tryz.underlying42 hi1 hi2 hi3 .i64 .i64 b.goods.length (by omega) (by rw [hi4]; omega) (by unfold maxLen; omega) (Nat.le_refl _)
      have hx6 : Ext wr w6 := Ext.grown (Ext.refl wr) hgr (fun k h => by cases h)
      rw [madeCells_int, List.toList_toArray, ← leftsK_zero b E N] at hown6
      have hx46 := hx.trans hx6
      have hm4 : w4.heap.size ≤ wr.heap.size := hx.size
      obtain ⟨z0, z1, z4⟩ := HCC.out _ hx46
      have y5 := hx46.cell HP.out.cell
      obtain ⟨_, _, rfl, _⟩ := RowAt.open (RowAt.of_owns hown)
      have HOWN := Lib.hid hown
      have HOWN6 := Lib.hid hown6
      have HX6 := Lib.hid hx6
      have HX46 := Lib.hid hx46
      have HX5 := Lib.hid hx
      have n1' : (0 : Int) ≤ (N : Int) := by omega
      have n2' : (N : Int) < (b.goods.length : Int) := by omega
      clear hown hown6 hgr hi1 hi2 hi3 hi4 hx6 hx46 hx hown0 q4 c1
      generalize hm : wr.heap.size = m at hrun HOWN6 hm4
      have HM := Lib.hid hm
      clear hm
      go_wp2
      clear c0 z0 z1 z4 y5
      obtain ⟨wq, rfl⟩ : ∃ wq : World, wq = wr := ⟨_, rfl⟩
      go_loopw [48] (fun j wz => ∃ k : Nat, k ≤ r.length ∧ j = .int .i64 (k : Int) ∧ wz.ownsRow m 3 1 (.slice (some ⟨m, 0, none⟩) b.goods.length b.goods.length) b.goods.length ((leftsK b E N k).map (.int .i64)) ∧ Touch (fun i => i = m) w6 wz) (fun j _ => r.length - (intOf j).toNat)
      case atStart => exact ⟨0, Nat.zero_le _, rfl, HOWN6.out, Touch.refl _ _⟩
      case round =>
       obtain ⟨k, hk, rfl, hown, ht⟩ := hrel
       have hxz : Ext w4 wr := Touch.ext HX46.out ht (fun i hi => by omega)
       by_cases hlt3 : k < r.length
       ·obtain ⟨_, _, hve, _, _, l3⟩ := RowOf.open3 (f := pgC) (fun _ => rfl) (HP.out.row.ext hxz)
        cases hve
        obtain ⟨bb, bo, p, rfl, hpk, d0, d1, d2⟩ := l3 k hlt3
        have hpm := List.mem_of_getElem? hpk.out
        have hpl : (pageB b E)[k]? = some p.l := by rw [← HP.out.ls, List.getElem?_map, hpk.out]; rfl
        have hpp := perms_mem.1 (page_perm (List.mem_of_getElem? hpl))
        obtain ⟨ma, mc, hmv, _, _, m3⟩ := ((HP.out.mean p hpm).ext hxz).open
        obtain ⟨mb, mo, mx, rfl, hmx, m4⟩ := m3 N (by omega)
        have hgx : p.l.getD N 0 = mx := by rw [List.getD_eq_getElem?_getD, hmx.out]; rfl
        have hx0g := hpp.2.2 mx (List.mem_of_getElem? hmx.out)
        obtain ⟨g, rfl⟩ : ∃ g : Nat, mx = g := ⟨mx.toNat, by omega⟩
        have hgl : g < b.goods.length := by omega
        have hnu := HP.out.nums p hpm
        have he2 : (E : Int) < b.editions := by rw [HED.out]; omega
        have hbd := many_bd HB.out he2 p.l
        have HPT := Lib.hid (fun W' => ptruths_any p W' ⟨_, _, _, hmv⟩ (by rw [hnu.1]; exact hbd.1) (by rw [hnu.2]; exact hbd.2))
        have HLS := Lib.hid (leftsK_succ hpl hgx)
        have hat := leftsK_at (b := b) (e := E) (n := N) (k := k) hgl
        have hb1 := leftK_bd HB.out he2 N k g
        have hb2 := leftK_bd HB.out he2 N (k + 1) g
        rw [leftK_succ hpl, if_pos hgx] at hb2
        rw [hpp.1] at hmv
        rw [hnu.1, hnu.2, hmv] at HPT
        rw [hmv] at d0
        rw [hnu.1] at d1
        rw [hnu.2] at d2
        have HMY : Hid (manyB b E p.l = aheadB b E p.l * afterB b E p.l) := rfl
        rw [HMY.out] at HLS hb2
        have l0 : wr.cell? ⟨m, g, none⟩ = some (.int .i64 (leftK b E N k g)) := by rw [hown.cellAt g (by omega), List.getElem?_map, hat]; rfl
        have lf := hown.frozenAt g
        generalize leftK b E N k g = old at hb1 hb2 l0 HLS
        generalize aheadB b E p.l = bf at HPT d1 HLS hb2
        generalize afterB b E p.l = af at HPT d2 HLS hb2
        have HW2 := Lib.hid (IntWalk.wrap64_in (old + bf * af) (by omega))
        have HOWNK := Lib.hid hown
        have HT := Lib.hid ht
        have i1 : (0 : Int) ≤ (k : Int) := by omega
        have i2 : (k : Int) < (r.length : Int) := by omega
        have s1 : (0 : Int) ≤ (g : Int) := by omega
        have s2 : (g : Int) < (b.goods.length : Int) := by omega
        obtain ⟨WP, hWP⟩ : ∃ WP, WP = wr.alloc (.cells #[.slice (some ⟨mb, mo, none⟩) b.goods.length mc, .int .i64 bf, .int .i64 af] 100) := ⟨_, rfl⟩
        have hxp : Ext wr WP := by rw [hWP]; exact (Ext.refl wr).alloc _
        have j0 := hxp.cell l0
        have j1 := (hxp.frozen (lt_of_cell l0)).trans lf
        have j2 : WP.cell? ⟨wr.heap.size, 0, none⟩ = some (.slice (some ⟨mb, mo, none⟩) b.goods.length mc) := by rw [hWP]; go_simp
        have j3 : WP.cell? ⟨wr.heap.size, 1, none⟩ = some (.int .i64 bf) := by rw [hWP]; go_simp
        have j4 : WP.cell? ⟨wr.heap.size, 2, none⟩ = some (.int .i64 af) := by rw [hWP]; go_simp
        have j5 := hxp.cell m4
        have HXP := Lib.hid hxp
        clear hown ht hxz l3 hpk hpm hpl hpp hmv m3 hmx hgx hx0g hnu hbd hat hb1 hb2 l0 lf m4 hxp
        go_upto_region 17 with fail
        rw [← hWP]
        clear hWP d0 d1 d2
        refine wp_region_noPanic ?_
        refine wp_region_any (by kernel_rfl) (wpAny_of_till (z := 12) (S := (fun w' => w'.cell? ⟨m, g, none⟩ = some (.int .i64 old) ∧ w'.frozen? ⟨m, g, none⟩ = false ∧ w'.cell? ⟨wr.heap.size, 0, none⟩ = some (.slice (some ⟨mb, mo, none⟩) b.goods.length mc) ∧ w'.cell? ⟨wr.heap.size, 1, none⟩ = some (.int .i64 bf) ∧ w'.cell? ⟨wr.heap.size, 2, none⟩ = some (.int .i64 af) ∧ w'.cell? ⟨mb, mo + N, none⟩ = some (.int .i64 (g : Int)))) _ _ _ _ ?_)
        change wpTill _ _ _ _ _ _ _ _ _ WP.drew
        have hS0 := (show (World.drew WP).cell? ⟨m, g, none⟩ = some (.int .i64 old) ∧ (World.drew WP).frozen? ⟨m, g, none⟩ = false ∧ (World.drew WP).cell? ⟨wr.heap.size, 0, none⟩ = some (.slice (some ⟨mb, mo, none⟩) b.goods.length mc) ∧ (World.drew WP).cell? ⟨wr.heap.size, 1, none⟩ = some (.int .i64 bf) ∧ (World.drew WP).cell? ⟨wr.heap.size, 2, none⟩ = some (.int .i64 af) ∧ (World.drew WP).cell? ⟨mb, mo + N, none⟩ = some (.int .i64 (g : Int)) from ⟨j0, j1, j2, j3, j4, j5⟩)
        refine till_at (i := 0) (d := some 52) (v := ?_) (by kernel_rfl) (by kernel_rfl) (by kernel_rfl) (by kernel_rfl) (by kernel_rfl) (fun _ _ _ h => h) (fun o ho => ?_) hS0 ?_
        rotate_left
        ·simp only [zA, zB, zD] at ho
         subst ho
         refine Or.inl ⟨by rfl, fun w' hSw => ?_⟩
         obtain ⟨hSw0, hSw1, hSw2, hSw3, hSw4, hSw5⟩ := hSw
         go_simp
         try with_reducible rfl
        try simp only [Act.put, yA, yB, yC]
        refine till_at (i := 1) (d := some 53) (v := ?_) (by kernel_rfl) (by kernel_rfl) (by kernel_rfl) (by kernel_rfl) (by kernel_rfl) (fun _ _ _ h => h) (fun o ho => ?_) hS0 ?_
        rotate_left
        ·simp only [zA, zB, zC, zD] at ho
         subst ho
         refine Or.inl ⟨by rfl, fun w' hSw => ?_⟩
         obtain ⟨hSw0, hSw1, hSw2, hSw3, hSw4, hSw5⟩ := hSw
         go_simp
         try with_reducible rfl
        try simp only [Act.put, yA, yB, yC]
        refine till_at (i := 2) (d := some 54) (v := ?_) (by kernel_rfl) (by kernel_rfl) (by kernel_rfl) (by kernel_rfl) (by kernel_rfl) (fun _ _ _ h => h) (fun o ho => ?_) hS0 ?_
        rotate_left
        ·simp only [zA, zB, zC, zD] at ho
         subst ho
         refine Or.inl ⟨by rfl, fun w' hSw => ?_⟩
         obtain ⟨hSw0, hSw1, hSw2, hSw3, hSw4, hSw5⟩ := hSw
         go_simp
         try with_reducible rfl
        try simp only [Act.put, yA, yB, yC]
        refine till_at (i := 3) (d := some 55) (v := ?_) (by kernel_rfl) (by kernel_rfl) (by kernel_rfl) (by kernel_rfl) (by kernel_rfl) (fun _ _ _ h => h) (fun o ho => ?_) hS0 ?_
        rotate_left
        ·simp only [zA, zB, zC, zD] at ho
         subst ho
         refine Or.inl ⟨by rfl, fun w' hSw => ?_⟩
         obtain ⟨hSw0, hSw1, hSw2, hSw3, hSw4, hSw5⟩ := hSw
         go_simp
         try with_reducible rfl
        try simp only [Act.put, yA, yB, yC]
        refine till_at (i := 4) (d := some 56) (v := ?_) (by kernel_rfl) (by kernel_rfl) (by kernel_rfl) (by kernel_rfl) (by kernel_rfl) (fun _ _ _ h => h) (fun o ho => ?_) hS0 ?_
        rotate_left
        ·simp only [zA, zB, zC, zD] at ho
         subst ho
         refine Or.inl ⟨by rfl, fun w' hSw => ?_⟩
         obtain ⟨hSw0, hSw1, hSw2, hSw3, hSw4, hSw5⟩ := hSw
         go_simp
         try with_reducible rfl
        try simp only [Act.put, yA, yB, yC]
        refine till_at (i := 5) (d := some 57) (v := ?_) (by kernel_rfl) (by kernel_rfl) (by kernel_rfl) (by kernel_rfl) (by kernel_rfl) (fun _ _ _ h => h) (fun o ho => ?_) hS0 ?_
        rotate_left
        ·simp only [zA, zB, zC, zD] at ho
         subst ho
         refine Or.inl ⟨by rfl, fun w' hSw => ?_⟩
         obtain ⟨hSw0, hSw1, hSw2, hSw3, hSw4, hSw5⟩ := hSw
         go_simp
         try with_reducible rfl
        try simp only [Act.put, yA, yB, yC]
        refine till_at (i := 6) (d := some 58) (v := ?_) (by kernel_rfl) (by kernel_rfl) (by kernel_rfl) (by kernel_rfl) (by kernel_rfl) (fun _ _ _ h => h) (fun o ho => ?_) hS0 ?_
        rotate_left
        ·simp only [zA, zB, zC, zD] at ho
         subst ho
         refine Or.inl ⟨by rfl, fun w' hSw => ?_⟩
         obtain ⟨hSw0, hSw1, hSw2, hSw3, hSw4, hSw5⟩ := hSw
         go_simp
         try with_reducible rfl
        try simp only [Act.put, yA, yB, yC]
        refine till_at (i := 7) (d := some 59) (v := ?_) (by kernel_rfl) (by kernel_rfl) (by kernel_rfl) (by kernel_rfl) (by kernel_rfl) (fun _ _ _ h => h) (fun o ho => ?_) hS0 ?_
        rotate_left
        ·simp only [zA, zB, zC, zD] at ho
         subst ho
         refine Or.inl ⟨by rfl, fun w' hSw => ?_⟩
         obtain ⟨hSw0, hSw1, hSw2, hSw3, hSw4, hSw5⟩ := hSw
         go_simp
         try with_reducible rfl
        try simp only [Act.put, yA, yB, yC]
        refine till_at (i := 8) (d := some 60) (v := ?_) (by kernel_rfl) (by kernel_rfl) (by kernel_rfl) (by kernel_rfl) (by kernel_rfl) (fun _ _ _ h => h) (fun o ho => ?_) hS0 ?_
        rotate_left
        ·simp only [zA, zB, zC, zD] at ho
         subst ho
         refine Or.inl ⟨by rfl, fun w' hSw => ?_⟩
         obtain ⟨hSw0, hSw1, hSw2, hSw3, hSw4, hSw5⟩ := hSw
         go_simp
         try with_reducible rfl
        try simp only [Act.put, yA, yB, yC]
        refine till_step (i := 9) (by kernel_rfl) (by kernel_rfl) (fun o ho K' hK => ?_)
        simp only [zA, zB, zC, zD] at ho
        subst ho
        go_simp
        go_at_call 56
        refine (HPT.out _).mono ?_
        rintro e w9 ⟨rfl, hx9⟩
        replace hx9 := (Ext.refl WP).drew.trans hx9
        try go_simp
        have hS9 := (show w9.cell? ⟨m, g, none⟩ = some (.int .i64 old) ∧ w9.frozen? ⟨m, g, none⟩ = false ∧ w9.cell? ⟨wr.heap.size, 0, none⟩ = some (.slice (some ⟨mb, mo, none⟩) b.goods.length mc) ∧ w9.cell? ⟨wr.heap.size, 1, none⟩ = some (.int .i64 bf) ∧ w9.cell? ⟨wr.heap.size, 2, none⟩ = some (.int .i64 af) ∧ w9.cell? ⟨mb, mo + N, none⟩ = some (.int .i64 (g : Int)) from ⟨hx9.cell j0, (hx9.frozen (lt_of_cell j0)).trans j1, hx9.cell j2, hx9.cell j3, hx9.cell j4, hx9.cell j5⟩)
        refine hK.out _ _ (fun _ => hS9) (fun _ => ?_)
        clear hK K'
        try simp only [Act.put, yA, yB, yC]
        refine till_at (i := 10) (d := some 62) (v := ?_) (by kernel_rfl) (by kernel_rfl) (by kernel_rfl) (by kernel_rfl) (by kernel_rfl) (fun _ _ _ h => h) (fun o ho => ?_) hS9 ?_
        rotate_left
        ·simp only [zA, zB, zC, zD] at ho
         subst ho
         refine Or.inl ⟨by rfl, fun w' hSw => ?_⟩
         obtain ⟨hSw0, hSw1, hSw2, hSw3, hSw4, hSw5⟩ := hSw
         go_simp
         try with_reducible rfl
        try simp only [Act.put, yA, yB, yC]
        refine till_at (i := 11) (d := some 63) (v := ?_) (by kernel_rfl) (by kernel_rfl) (by kernel_rfl) (by kernel_rfl) (by kernel_rfl) (fun _ _ _ h => h) (fun o ho => ?_) hS9 ?_
        rotate_left
        ·simp only [zA, zB, zC, zD] at ho
         subst ho
         refine Or.inl ⟨by rfl, fun w' hSw => ?_⟩
         obtain ⟨hSw0, hSw1, hSw2, hSw3, hSw4, hSw5⟩ := hSw
         go_simp
         try with_reducible rfl
        try simp only [Act.put, yA, yB, yC]
        refine till_step (i := 12) (by kernel_rfl) (by kernel_rfl) (fun o ho K' hK => ?_)
        simp only [zA, zB, zC, zD] at ho
        subst ho
        go_simp
        refine hK.out _ _ (fun h => absurd rfl h) (fun _ => ?_)
        clear hK K'
        try simp only [Act.put, yA, yB, yC]
        refine till_done (by kernel_rfl) ?_ _
        refine NoPanic.normal ?_
        try simp only [Act.put, yA, yB, yC]
        go_wp2
        go_roundw
        case rel =>
         have hst := ((owns_ext HOWNK.out (HXP.out.trans hx9)).stored g (.int .i64 (old + bf * af))).1
         refine ⟨k + 1, by omega, by go_num, ?_, ?_⟩
         ·rw [HLS.out, List.map_set, HW2.out]; exact hst
         ·exact (HT.out.trans (Touch.of_ext (HXP.out.trans hx9))).trans (Touch.setCell _ rfl)
        case measure => simp [intOf]; omega
       ·have hkr : k = r.length := by omega
        have hpn : r.length = (pageB b E).length := by rw [← HP.out.ls, List.length_map]
        rw [hkr, hpn] at hown
        have hmx := lefts_max b E N
        have hll := leftsK_len b E N (pageB b E).length
        generalize leftsK b E N (pageB b E).length = L at hown hmx hll
        rw [← hll] at hown
        have HIN := Lib.hid (IntsAt.of_owns hown)
        have HMX := Lib.hid (maxI_any _ L wr HIN.out (by omega) (by omega))
        rw [hmx, hll] at HMX
        have HPQ := Lib.hid (quest_push (b := b) (e := E) (n := N) (by rw [HED.out]; omega) hlt2)
        have hoq := owns_touch (owns_ext HOWN.out HX6.out) ht (fun q hq hqm => by have h1 := (World.ownsRow.lt HOWN.out q hq).2; have := HM.out; omega)
        have HOQ := Lib.hid hoq
        have HXZ := Lib.hid hxz
        have hgm : E * b.goods.length ≤ 3 * 5 := Nat.mul_le_mul (by have := HLM.out.1; omega) g5
        have HSZ := Lib.hid (show E * b.goods.length + N + 1 ≤ maxLen ∧ (E * b.goods.length + N + 1) * 24 ≤ 140737488355328 by unfold maxLen; omega)
        clear hown hkr hpn hmx hll hoq hxz ht hgm
        generalize worstB b E N = wo at HMX HPQ
        go_wp2_with (first
         | (go_at_call 57; refine HMX.out.mono ?_; rintro e w9 ⟨rfl, rfl⟩)
         | (at_builtin; refine wpList_push_at E_quests rfl _ _ rfl w4.heap.size rfl HOQ.out rfl (by simp) rfl (by simp [Value.oneCell']) ?_ HSZ.out.1 HSZ.out.2 HXZ.out.size; intro q cap w9 hown9 hext9 hg9 hloc9))
        go_roundw
        case rel =>
         refine ⟨N + 1, by omega, by go_num, ?_, hext9 _ HXZ.out (Nat.le_refl _)⟩
         rw [← Nat.add_assoc, HPQ.out]
         exact hown9
        case measure => simp [intOf]; omega
     ·have hNe : N = b.goods.length := by omega
      subst hNe
      have HOWN := Lib.hid hown
      have HX5 := Lib.hid hx
      clear hown hx hown0 c0 c1 q4
      go_wp2
      go_roundw
      case rel => exact ⟨E + 1, by omega, by go_num, by rw [Nat.succ_mul]; exact HOWN.out, HX5.out⟩
      case measure => simp [intOf]; omega
   ·have hEe : E = ed := by omega
    rw [hEe, ← HQL.out] at hown
    have hqr := rowq_of hown
    have hq0 : 0 < (questions b).length := by
     rw [HQL.out]
     exact Nat.mul_pos (by have := HLM.out.2; omega) (by omega)
    have HBQ := Lib.hid (bestq_any _ (questions b) wr hqr hq0)
    obtain ⟨_, _, rfl, _⟩ := RowAt.open hqr
    have HX := Lib.hid (HX4.out.trans hx)
    clear hown hqr hq0 hx c0 c1 q4 hEe
    go_upto_region 23 with (go_at_call 58; refine HBQ.out.mono ?_; rintro e w9 ⟨q, hbq, rfl, hx9⟩)
    have hask : askB b = q := by unfold askB; exact congrArg (fun z => z.getD (0, 0, 0)) hbq
    rw [hask] at HR
    have HX9 := Lib.hid (HX.out.trans hx9)
    clear hbq hask hx9
    obtain ⟨WZ, hWZ⟩ : ∃ WZ, WZ = w9.alloc (.cells #[.int .i64 q.1, .int .i64 q.2.1, .int .i64 q.2.2] 111) := ⟨_, rfl⟩
    have hxz : Ext w9 WZ := by rw [hWZ]; exact (Ext.refl w9).alloc _
    have y0 : WZ.cell? ⟨w9.heap.size, 0, none⟩ = some (.int .i64 q.1) := by rw [hWZ]; go_simp
    have y1 : WZ.cell? ⟨w9.heap.size, 1, none⟩ = some (.int .i64 q.2.1) := by rw [hWZ]; go_simp
    have y2 : WZ.cell? ⟨w9.heap.size, 2, none⟩ = some (.int .i64 q.2.2) := by rw [hWZ]; go_simp
    rw [← hWZ]
    clear hWZ
    have HFZ := Lib.hid (fun W' (h : Ext WZ W') => (⟨h.cell y0, h.cell y1, h.cell y2⟩ : _ ∧ _ ∧ _))
    clear y0 y1 y2
    refine region_reads (C := fun W => Ext WZ W) (by kernel_rfl) (by kernel_rfl) ((Ext.refl WZ).drew) ?_
    repeat (first | go_big_quiet_skip | (go_big_quiet_want; go_big_quiet_op; first | go_big_quiet_on | (refine ⟨_, fun W hW => rfl, ?_⟩; go_big_quiet_on)) | (go_big_quiet_want; refine ⟨?_, fun W hW => ?_, ?_⟩; rotate_left; (· (obtain ⟨y0, y1, y2⟩ := HFZ.out W hW); go_simp; (first | with_reducible rfl)); (try simp only [Act.put, yA, yB, yC]); go_big_quiet_on))
    refine wpQuiet_nil ?_
    intro wq hq
    go_wp2
    refine bodyPost_ret (v := .tuple #[.int .i64 q.1, .int .i64 q.2.1, .int .i64 q.2.2, .int .i64 0]) (by simp [results, Tryz.results32, go_sem]) rfl ?_
    exact HR.out _ ((HX9.out.trans hxz).trans hq)
 ·have hz0 : (askErr b true == 0) = false := by simpa using hz
  have hR : ∀ w', Ext w w' → QRes b w (.returned (.tuple #[.int .i64 0, .int .i64 0, .int .i64 0, .int .i64 (askErr b true)])) w' := fun w' h => ⟨h, .inl ⟨hz, rfl⟩⟩
  have HR := Lib.hid hR
  clear hR hz
  generalize askErr b true = z at *
  go_enter Tryz.func32, Tryz.ntmps32
  go_upto_region 1 with fail
  unfold bookBox at hW
  rw [← hW]
  clear hW
  go_wp2_with (go_at_call 45; refine (HAS.out _ HX0.out).mono ?_; rintro r w2 ⟨a1, n1, k1, x, y, a2, n2, k2, a3, n3, k3, rfl, hz, hop⟩; have hx3 : Ext w (w2.alloc (.cells #[.slice a1 n1 k1, .int .i64 x, .int .i64 y, .slice a2 n2 k2, .slice a3 n3 k3] 95)) := (HX0.out.trans hz).alloc _; clear hop c0 c1 c2 c3)
  refine bodyPost_ret (v := .tuple #[.int .i64 0, .int .i64 0, .int .i64 0, .int .i64 z]) (by simp [results, Tryz.results32, go_sem]) rfl ?_
  exact HR.out _ hx3
end Go.Proofs.YtokananogogjaaaGreatDoor

/- Truths. -/
namespace Go.Proofs.YtokananogogjaaaGreatDoor
open Go.RowKit
def TruthsRes (b : Book) (w : World) (e : Ending) (w' : World) : Prop :=
 Ext w w' ∧ ((askErr b true ≠ 0 ∧ e = .returned (.tuple #[.int .i64 0, .int .i64 (askErr b true)])) ∨ (askErr b true = 0 ∧ e = .returned (.tuple #[.int .i64 (truthsB b), .int .i64 0])))
set_option maxRecDepth 100000 in
theorem Truths_any (v : Value) (b : Book) (w : World) (hb : BookAt w v b) : Calls Tryz.prog 31 #[v] w (TruthsRes b w) := by
 have HAS := Lib.hid (fun W1 (h : Ext w W1) => asked5_any v b true W1 (hb.ext h))
 have HBE := Lib.hid (fun W1 (h : Ext w W1) => hb.ext h)
 obtain ⟨ga, gc, ea, ec, rfl, hgl, hel⟩ := hb.open
 obtain ⟨W, hW⟩ : ∃ W, W = w.alloc (bookBox (.slice ga b.goods.length gc) b (.slice ea b.entries.length ec)) := ⟨_, rfl⟩
 have hx0 : Ext w W := by rw [hW]; exact (Ext.refl w).alloc _
 have HX0 := Lib.hid hx0
 have c0 : W.cell? ⟨w.heap.size, 0, none⟩ = some (.slice ga b.goods.length gc) := by rw [hW]; go_simp
 have c1 : W.cell? ⟨w.heap.size, 1, none⟩ = some (.int .i64 b.editions) := by rw [hW]; go_simp
 have c2 : W.cell? ⟨w.heap.size, 2, none⟩ = some (.int .i64 b.moves) := by rw [hW]; go_simp
 have c3 : W.cell? ⟨w.heap.size, 3, none⟩ = some (.slice ea b.entries.length ec) := by rw [hW]; go_simp
 clear hb hx0 hgl hel
 rcases askErr_or b true with ⟨hz, hbk, _, _⟩ | hz
 ·have hB := bookB_of hbk
  have HOT := Lib.hid (fun u W1 (h : OpenAt W1 u b) => otruths_any u b W1 hB h)
  have hR : ∀ w', Ext w w' → TruthsRes b w (.returned (.tuple #[.int .i64 (truthsB b), .int .i64 0])) w' := fun w' h => ⟨h, .inr ⟨hz, rfl⟩⟩
  have HR := Lib.hid hR
  rw [hz] at HAS
  clear hR hz hbk hB
  go_enter Tryz.func31, Tryz.ntmps31
  go_upto_region 1 with fail
  unfold bookBox at hW
  rw [← hW]
  clear hW
  go_wp2_with (first
   | (go_at_call 45; refine (HAS.out _ HX0.out).mono ?_; rintro r w2 ⟨a1, n1, k1, x, y, a2, n2, k2, a3, n3, k3, rfl, hz, hop⟩; have hx3 : Ext w (w2.alloc (.cells #[.slice a1 n1 k1, .int .i64 x, .int .i64 y, .slice a2 n2 k2, .slice a3 n3 k3] 95)) := (HX0.out.trans hz).alloc _; have HO3 := Lib.hid (hop rfl _ (HBE.out _ hx3) (KeepC.of_ext ((Ext.refl w2).alloc _))); clear hop c0 c1 c2 c3)
   | (go_at_call 55; refine (HOT.out _ _ HO3.out).mono ?_; rintro r w4 ⟨rfl, hx4⟩))
  go_ret2
  exact HR.out _ (hx3.trans hx4)
 ·have hz0 : (askErr b true == 0) = false := by simpa using hz
  have hR : ∀ w', Ext w w' → TruthsRes b w (.returned (.tuple #[.int .i64 0, .int .i64 (askErr b true)])) w' := fun w' h => ⟨h, .inl ⟨hz, rfl⟩⟩
  have HR := Lib.hid hR
  clear hR hz
  generalize askErr b true = z at *
  go_enter Tryz.func31, Tryz.ntmps31
  go_upto_region 1 with fail
  unfold bookBox at hW
  rw [← hW]
  clear hW
  go_wp2_with (go_at_call 45; refine (HAS.out _ HX0.out).mono ?_; rintro r w2 ⟨a1, n1, k1, x, y, a2, n2, k2, a3, n3, k3, rfl, hz, hop⟩; have hx3 : Ext w (w2.alloc (.cells #[.slice a1 n1 k1, .int .i64 x, .int .i64 y, .slice a2 n2 k2, .slice a3 n3 k3] 95)) := (HX0.out.trans hz).alloc _; clear hop c0 c1 c2 c3)
  go_ret2
  exact HR.out _ hx3
end Go.Proofs.YtokananogogjaaaGreatDoor
