/- The reference's ends, Agree, Known, Wrong, Mends. -/
import Derived.Test.YtpheidlocijdkaaGreatDoorRefe
import Derived.Test.YtpheidlocijdkaaGreatDoorDue
import Derived.StillTailTactics
namespace Go.Proofs.YtpheidlocijdkaaGreatDoor
open Go.RowKit

theorem fold_step (f : Int → Int → Int) (x : Int) {xs : List Int} {k : Nat} {y : Int} (h : xs[k]? = some y) : (xs.take (k + 1)).foldl f x = f ((xs.take k).foldl f x) y := by
  rw [List.take_add_one, h]; simp
theorem fold_min (x : Int) (l : List Int) : (x :: l).foldl min x = l.foldl min x := by simp
theorem fold_max (x : Int) (l : List Int) : (x :: l).foldl max x = l.foldl max x := by simp
set_option maxRecDepth 100000 in
set_option maxHeartbeats 2000000 in
theorem ends_any (v : Value) (x : Int) (l : List Int) (w : World) (hv : IntsAt w v (x :: l)) :
    Calls Tryz.prog 103 #[v] w fun e w' => e = .returned (.agg #[.int .i64 (spanOf (x :: l)).1, .int .i64 (spanOf (x :: l)).2]) ∧ Ext w w' := by
  obtain ⟨a, c, rfl, h1, h2, h3⟩ := hv.open
  obtain ⟨b0, o0, n0, rfl, hn0, hc0⟩ := h3 0 (by simp)
  have HC := Lib.hid h3
  have hx : n0 = x := by have := hn0.out; simpa using this.symm
  subst hx
  clear h3 hn0
  simp only [Nat.add_zero] at hc0
  have hlen : (n0 :: l).length = l.length + 1 := rfl
  obtain ⟨m, hm⟩ : ∃ m, (n0 :: l).length = m := ⟨_, rfl⟩
  rw [hm] at h1 ⊢
  have hm1 : 1 ≤ m := by omega
  have HM := Lib.hid hm
  clear hlen hm hv
  have hmix : Tryz.prog.follows .mixedOrders = true := by kernel_rfl
  have d0 := ((Ext.refl w).alloc (.cells #[.int .i64 0, .int .i64 0] 23)).cell hc0
  have x0 : decide ((0 : Int) < (m : Int)) = true := by simp; omega
  have x1 : 0 < m := by omega
  go_enter Tryz.func103, Tryz.ntmps103
  go_upto_region 1 with fail
  go_region_held3 (fun w' => w'.cell? ⟨b0, o0, none⟩ = some (.int .i64 n0)) (first | go_keep) (first | fail)
  go_wp2
  have HB := Lib.hid (show Ext w (((w.alloc (.cells #[.int .i64 0, .int .i64 0] 23)).drew).alloc (.cells #[.int .i64 n0, .int .i64 n0] 23)) from (((Ext.refl w).alloc _).drew).alloc _)
  go_loopw [4] (fun i wr => ∃ k : Nat, k ≤ m ∧ i = .int .i64 k ∧ Ext w wr ∧ Hid (wr.heap[w.heap.size]? = some (.cells #[.int .i64 0, .int .i64 0] 23 (0, 0))) ∧ Hid (wr.heap[w.heap.size + 1]? = some (.cells #[.int .i64 (((n0 :: l).take k).foldl min n0), .int .i64 (((n0 :: l).take k).foldl max n0)] 23 (0, 0)))) (fun i _ => m - (intOf i).toNat)
  case atStart => 
    refine ⟨0, Nat.zero_le _, rfl, HB.out, ?_, ?_⟩
    · exact (two_new w _ _).1
    · exact (two_new w _ _).2
  case round =>
    obtain ⟨k, hk, rfl, hx, hba, hbb⟩ := hrel
    obtain ⟨⟨p0, p1⟩, ⟨q0, q1⟩, r0, r1⟩ := box2 hbb.out (.int .i64 (((n0 :: l).take (k + 1)).foldl min n0))
    obtain ⟨⟨s0, s1⟩, ⟨t0, t1⟩, u0, u1⟩ := box2 hba.out (.int .i64 (((n0 :: l).take k).foldl min n0))
    have hlt0 := (Array.getElem?_eq_some_iff.1 hba.out).1
    have hlt1 := (Array.getElem?_eq_some_iff.1 hbb.out).1
    by_cases hlt : k < m
    · obtain ⟨b1, o1, y, e1, hy, hc⟩ := HC.out k (by rw [HM.out]; exact hlt)
      cases e1
      have hmn := fold_step min n0 hy.out
      have hmx := fold_step max n0 hy.out
      rw [hmn] at r0 r1
      have d1 := hx.cell hc
      have HMN := Lib.hid hmn
      have HMX := Lib.hid hmx
      generalize ((n0 :: l).take k).foldl min n0 = A at *
      generalize ((n0 :: l).take k).foldl max n0 = B at *
      have x2 : decide ((k : Int) < (m : Int)) = true := by simpa using hlt
      have x3 : (k : Int) < (m : Int) := by omega
      clear hmn hmx s0 s1 t0 t1 u0 u1 hc
      go_upto_region 5 with fail
      go_still_tail 15, (by kernel_rfl)
      change wpList _ _ _ _ _ wr.drew
      go_wp2
      go_roundw
      case rel =>
        refine ⟨k + 1, by omega, by go_num, ?_, ?_, ?_⟩
        · exact ((hx.setCell (p := ⟨w.heap.size + 1, 0, none⟩) (by simp) _).setCell (p := ⟨w.heap.size + 1, 1, none⟩) (by simp) _).drew
        · exact (Below.heap_setCell _ _ _ _ (by simp)).trans ((Below.heap_setCell _ _ _ _ (by simp)).trans hba.out)
        · rw [HMN.out, HMX.out]; exact box2_end hbb.out _ _
      case measure => simp [intOf]; omega
    · have hke : k = m := by omega
      have hA : ((n0 :: l).take k).foldl min n0 = (spanOf (n0 :: l)).1 := by
        rw [List.take_of_length_le (by rw [HM.out]; omega), fold_min]; rfl
      have hB' : ((n0 :: l).take k).foldl max n0 = (spanOf (n0 :: l)).2 := by
        rw [List.take_of_length_le (by rw [HM.out]; omega), fold_max]; rfl
      have hbb2 := hbb.out
      rw [hA, hB'] at hbb2
      clear p0 p1 q0 q1 r0 r1 s0 s1 t0 t1 u0 u1
      obtain ⟨⟨p0, p1⟩, ⟨q0, q1⟩, r0, r1⟩ := box2 hbb2 (.int .i64 0)
      obtain ⟨⟨s0, s1⟩, ⟨t0, t1⟩, u0, u1⟩ := box2 hba.out (.int .i64 (spanOf (n0 :: l)).1)
      have x2 : decide ((k : Int) < (m : Int)) = false := by simp; omega
      have hE : Ext w ((wr.setCell ⟨w.heap.size, 0, none⟩ (.int .i64 (spanOf (n0 :: l)).1)).setCell ⟨w.heap.size, 1, none⟩ (.int .i64 (spanOf (n0 :: l)).2)) := (hx.setCell (by simp) _).setCell (by simp) _
      have hend := box2_end hba.out (.int .i64 (spanOf (n0 :: l)).1) (.int .i64 (spanOf (n0 :: l)).2)
      have HEND := Lib.hid (And.intro hE hend)
      clear hA hB' hke r0 r1 hE hend hbb2
      go_wp2
      obtain ⟨⟨d0, d1⟩, _⟩ := box2 HEND.out.2 (.int .i64 0)
      exact bodyPost_ret (v := spanV (spanOf (n0 :: l))) (by simp [results, Tryz.f103, go_sem, d0, d1, spanV]) rfl ⟨rfl, HEND.out.1⟩

theorem rin_agree {r : Round} (hB : RoundB r) {free : Int} {i : Nat} (hi : i < r.houses.length) {xs : List Int} (h : ∀ m, m ∈ xs ↔ houseR r free (r.hi + 1) i m) : decide (0 < xs.length) = agreeB r free := by
  rw [Bool.eq_iff_iff, decide_eq_true_eq, agreeB_iff hB]
  constructor
  · intro hl
    exact button_of_house hB hi ((h _).1 (List.getElem_mem hl))
  · intro hb
    obtain ⟨m, hm⟩ := house_of_button hB hi hb
    exact List.length_pos_of_mem ((h m).2 hm)
set_option maxHeartbeats 1000000 in
theorem ragree_any (v : Value) (r : Round) (free : Int) (w : World) (hr : RoundAt w v r) (hB : RoundB r) :
    Calls Tryz.prog 16 #[v, .int .i64 free] w fun e w' => e = .returned (.bool (agreeB r free)) ∧ Ext w w' := by
  have HO := Lib.hid (fun w1 (hx : Ext w w1) => rown_any v r 0 free w1 (hr.ext hx) hB (by have := hB.h1; omega))
  obtain ⟨hv, rfl, hh⟩ := hr
  obtain ⟨a, c, rfl, _⟩ := hh.open
  unfold Round.cells at *
  clear hh
  go_enter Tryz.func16, Tryz.ntmps16
  go_wp2_with (go_at_call 65; refine (HO.out _ ((Ext.refl w).alloc _)).mono ?_; rintro e w1 ⟨v1, xs, rfl, hx1, hI, hm⟩; obtain ⟨va, vc, rfl, _⟩ := hI.open; have hd := rin_agree hB (by have := hB.h1; omega) hm)
  go_ret
  exact ⟨rfl, ((Ext.refl w).alloc _).trans hx1⟩
theorem own_row {r : Round} (hB : RoundB r) {free : Int} (ha : agreeB r free = true) {i : Nat} (hi : i < r.houses.length) {xs : List Int} (h : ∀ m, m ∈ xs ↔ houseR r free (r.hi + 1) i m) : ∃ x l, xs = x :: l ∧ spanOf (x :: l) = spanOf (houseL r free i) := by
  have hm : ∀ m, m ∈ xs ↔ m ∈ houseL r free i := fun m => (h m).trans (mem_houseL hB hi).symm
  cases xs with
  | nil =>
    obtain ⟨m, hm'⟩ := List.exists_mem_of_ne_nil _ (houseL_ne hB ha hi)
    have := (hm m).2 hm'; simp at this
  | cons x l => exact ⟨x, l, rfl, spanOf_congr hm⟩
set_option maxRecDepth 100000 in
set_option maxHeartbeats 2000000 in
theorem rknown_any (v : Value) (r : Round) (w : World) (hr : RoundAt w v r) (hB : RoundB r) (ha : agreeB r (-1) = true) :
    Calls Tryz.prog 66 #[v] w fun e w' => ∃ v1, e = .returned v1 ∧ Ext w w' ∧ SpansAt w' v1 (knownL r) := by
  have HO := Lib.hid (fun (i : Nat) (hi : i < r.houses.length) w1 (hx : Ext w w1) => rown_any v r i (-1) w1 (hr.ext hx) hB hi)
  have HAG := Lib.hid ha
  obtain ⟨hv, rfl, hh⟩ := hr
  obtain ⟨a, c, rfl, h1, h2, _⟩ := hh.open
  unfold Round.cells at *
  have h4 := hB.h2
  clear hh ha
  have hx0 : Ext w (w.alloc (boxR r a c)) := (Ext.refl w).alloc _
  have hb0 := World.alloc_heap_new w (boxR r a c)
  go_enter Tryz.func66, Tryz.ntmps66
  go_wp2
  go_loopw [3, 4] (fun out i wr => ∃ k : Nat, k ≤ r.houses.length ∧ i = .int .i64 k ∧ wr.ownsRow (w.heap.size + 1) 23 2 out k (((knownL r).take k).flatMap spanCells) ∧ Ext w wr ∧ Hid (wr.heap[w.heap.size]? = some (boxR r a c))) (fun _ i _ => r.houses.length - (intOf i).toNat)
  case atStart => exact ⟨0, Nat.zero_le _, rfl, World.ownsRow_nil _ _ _ _, hx0, hb0⟩
  case round =>
    clear hx0 hb0
    obtain ⟨k, hk, rfl, hown, hx, hbx⟩ := hrel
    obtain ⟨z0, z1, z2, z3, z4, z5, z6, z7⟩ := round_cells hbx.out
    have hbk := (Array.getElem?_eq_some_iff.1 hbx.out).1
    by_cases hlt : k < r.houses.length
    · have x2 : decide ((k : Int) < (r.houses.length : Int)) = true := by simpa using hlt
      have HO1 := Lib.hid (HO.out k hlt wr hx)
      have hsz : k + 1 ≤ maxLen ∧ (k + 1) * 16 ≤ 140737488355328 := by unfold maxLen; omega
      have HSZ := Lib.hid hsz
      clear hsz
      go_wp2_with (first
        | (go_at_call 65; refine HO1.out.mono ?_; rintro e w1 ⟨v1, xs, rfl, hx1, hI, hm⟩; obtain ⟨x, l, rfl, hsp⟩ := own_row hB HAG.out hlt hm; have HSP := Lib.hid hsp; clear hsp hm; have HE := Lib.hid (ends_any v1 x l w1 hI); obtain ⟨va, vc, rfl, _⟩ := hI.open)
        | (go_at_call 103; refine HE.out.mono ?_; rintro e w2 ⟨rfl, hx2⟩; have hx12 := hx1.trans hx2; have hbz : w.heap.size + 1 ≤ w2.heap.size := by have := hx12.size; omega)
        | (at_builtin; refine wpList_push E_spans rfl _ _ rfl (w.heap.size + 1) rfl (owns_ext hown hx12) rfl rfl (by simp [Value.oneCell']) ?_ HSZ.out.1 HSZ.out.2 hbz; intro g cap w3 hown' hext hgr))
      have hkn := flat_succ spanCells (knownL_at r hlt)
      rw [← HSP.out] at hkn
      have HKN := Lib.hid hkn
      clear hkn
      go_roundw
      case rel => exact ⟨k + 1, by omega, by go_num, by rw [HKN.out]; exact hown', hext _ (hx.trans hx12) (Nat.le_succ _), kept_push hgr ((hx12.block hbk).trans hbx.out) (owns_block hown) (Nat.lt_succ_self _)⟩
      case measure => simp [intOf]; omega
    · have hke : k = r.houses.length := by omega
      have x2 : decide ((k : Int) < (r.houses.length : Int)) = false := by simp; omega
      have hs : SpansAt wr u3 (knownL r) := by
        have := RowAt.of_owns hown
        rw [List.take_of_length_le (by rw [knownL_length]; omega)] at this
        unfold SpansAt; rw [knownL_length, ← hke]; exact this
      have HFIN := Lib.hid (And.intro hx hs)
      clear hke hs hown
      go_wp2
      go_ret
      exact ⟨_, rfl, HFIN.out⟩
end Go.Proofs.YtpheidlocijdkaaGreatDoor
