/- card.read: the round of a text, or giving up. -/
import Derived.Test.YtbeophjdiddomaaGreatDoorReade
import Derived.Test.YtbeophjdiddomaaGreatDoorReadt
namespace Go.Proofs.YtbeophjdiddomaaGreatDoor
open Go.RowKit

set_option maxRecDepth 100000 in
set_option maxHeartbeats 64000000 in
theorem read_main (s : List UInt8) (w : World) (ht : TabOk w) (hm : MaxOk w) (hs : s.length ≤ 500) (q0 : toldOk wRound 2 (lineAt s 0) = true) (qL0 : (splitL 10 s).length = manyOf s + 5) (q1 : toldOk wWeigh 4 (lineAt s 1) = true) : Calls Tryz.prog 52 #[strV s] w (ReadPost s w) := by
  have HTT := Lib.hid ht
  have HMM := Lib.hid hm
  have HQZ := Lib.hid qL0
  clear qL0
  have HQY := Lib.hid q1
  clear q1
  have HSP := Lib.hid (fun w1 (hx : Ext w w1) => split_any s 10 w1 (hm.ext hx) (by omega))
  have HTO := Lib.hid (fun i kind word M w1 (hx : Ext w w1) (hM : 2 ≤ M ∧ M ≤ 6) (hn : NameAt kind word) (h : toldOk word M (lineAt s i) = true) => told_ok (lineAt s i) kind word M w1 (ht.ext hx) (hm.ext hx) (by have := lineAt_short s i; omega) hM hn h)
  have HTN := Lib.hid (fun i kind word M w1 (hx : Ext w w1) (hM : 2 ≤ M ∧ M ≤ 6) (hn : NameAt kind word) (h : toldOk word M (lineAt s i) = false) => told_no (lineAt s i) kind word M w1 (ht.ext hx) (hm.ext hx) (by have := lineAt_short s i; omega) hM hn h)
  have HTX := Lib.hid (fun v r w1 (hx : Ext w w1) (hr : RoundAt w1 v r) (hB : TextB r) => text_any v r w1 hr hB (ht.ext hx))
  have HN0 := Lib.hid (show NameAt 0 wRound from nm_at0)
  have HN1 := Lib.hid (show NameAt 1 wWeigh from nm_at1)
  have HN2 := Lib.hid (show NameAt 2 wHouse from nm_at2)
  have HN3 := Lib.hid (show NameAt 3 wAll from nm_at3)
  have HSU := Lib.hid sure_yes
  have HSN := Lib.hid sure_no
  have hx0 : Ext w (w.alloc (.cells #[.int .i64 0, .int .i64 0, .int .i64 0, .int .i64 0, .int .i64 0, .slice none 0 0, .int .i64 0, .int .i64 0] 26)) := (Ext.refl w).alloc _
  have HX0 := Lib.hid hx0
  have hmix : Tryz.prog.follows .mixedOrders = true := by kernel_rfl
  have hc := split_count 10 s
  have hne := splitL_ne 10 s
  have hL1 : 1 ≤ (splitL 10 s).length := List.length_pos_iff.2 hne
  obtain ⟨L, hL⟩ : ∃ L, (splitL 10 s).length = L := ⟨_, rfl⟩
  rw [hL] at HSP hL1 hc
  have HL := Lib.hid hL
  have b0 : (0 : Int) < (L : Int) := by omega
  have b0n : 0 < L := by omega
  clear hx0 ht hm hne hL
  obtain ⟨hl0, hs0, -⟩ := told_line q0
  obtain ⟨p, n, hpn⟩ := two_of hl0
  rw [hpn] at hs0
  have hn01 := hs0 n (by simp)
  obtain ⟨nn, rfl⟩ : ∃ nn : Nat, n = (nn : Int) := ⟨n.toNat, by omega⟩
  have HPN := Lib.hid hpn
  have HMO : Hid (manyOf s = nn) := by unfold Hid manyOf; rw [hpn]; simp
  have HT0 := Lib.hid (fun w1 hx => HTO.out 0 0 wRound 2 w1 hx ⟨by omega, by omega⟩ HN0.out q0)
  have E1 : IntKind.i64.wrap ((nn : Int) + 5) = (nn : Int) + 5 := IntWalk.i64_in _ (by omega)
  have HQ0 := Lib.hid q0
  clear hl0 hs0 hpn q0
  have qL : L = nn + 5 := by have h := HQZ.out; rw [HL.out, HMO.out] at h; exact h
  clear HQZ
  have t1 : ((L : Int) == (nn : Int) + 5) = true := by rw [beq_iff_eq]; omega
  have hnn : nn ≤ 496 := by omega
  have b1 : (1 : Int) < (L : Int) := by omega
  have b1n : 1 < L := by omega
  have q1 := HQY.out
  clear HQY
  obtain ⟨hl1, hs1, -⟩ := told_line q1
  obtain ⟨x0, x1, x2, x3, hxx⟩ := four_of hl1
  have HXX := Lib.hid hxx
  have HT1 := Lib.hid (fun w1 hx => HTO.out 1 1 wWeigh 4 w1 hx ⟨by omega, by omega⟩ HN1.out q1)
  have HQ1 := Lib.hid q1
  have HQL := Lib.hid qL
  clear hl1 hs1 hxx q1 qL
  go_enter Tryz.func52, Tryz.ntmps52
  go_upto_region 5 with (first
    | (go_at_call 88; refine (HSP.out _ HX0.out).mono ?_; rintro e w1 ⟨b, rfl, hx1, hst⟩; have z0 := strs_cell hst (lineAt_get (s := s) (i := 0) (by rw [HL.out]; omega)); have hy1 := HX0.out.trans hx1; have HST := Lib.hid hst; clear hst)
    | (go_at_call 89; refine (HT0.out _ hy1).mono ?_; rintro e w2 ⟨v1, rfl, hx2, hv1⟩; rw [HPN.out] at hv1; obtain ⟨vb, vo, vc, hve, hvc⟩ := ints_at (IntsAt.of_owns hv1) (by simp); subst hve; have a0 := hvc 0 p rfl; rw [Nat.add_zero] at a0; have a1 := hvc 1 nn rfl; have hy2 := hy1.trans hx2; have HVC := Lib.hid hvc; clear HT0 hv1 hvc)
    | (go_at_call 90; refine (HSU.out _ _).mono ?_; rintro e w3 ⟨rfl, rfl⟩; have z1 := hx2.cell (strs_cell HST.out (lineAt_get (s := s) (i := 1) (by rw [HL.out]; omega))))
    | (go_at_call 89; refine (HT1.out _ hy2).mono ?_; rintro e w4 ⟨v2, rfl, hx4, hv2⟩; rw [HXX.out] at hv2; obtain ⟨ub, uo, uc, hue, huc⟩ := ints_at (IntsAt.of_owns hv2) (by simp); subst hue; have c0 := huc 0 x0 rfl; rw [Nat.add_zero] at c0; have c1 := huc 1 x1 rfl; have c2 := huc 2 x2 rfl; have c3 := huc 3 x3 rfl; have hy4 := hy2.trans hx4; have a0 := hx4.cell a0; have a1 := hx4.cell a1; clear HT1 hv2 huc))
  have hza := (Ext.refl w4).alloc (.cells #[.int .i64 0, .int .i64 0, .int .i64 0, .int .i64 0, .int .i64 0, .slice none 0 0, .int .i64 0, .int .i64 0] 26)
  have a0' := hza.cell a0
  have c0' := hza.cell c0
  have c1' := hza.cell c1
  have c2' := hza.cell c2
  have c3' := hza.cell c3
  go_region
  clear a0' c0' c1' c2' c3' hza z0 z1
  have hx5 : Ext w4 ((w4.alloc (boxR8 p x0 x1 x2 x3 (.slice none 0 0) 0 0)).drew) := ((Ext.refl w4).alloc _).drew
  have HRB5 : Hid (((w4.alloc (boxR8 p x0 x1 x2 x3 (.slice none 0 0) 0 0)).drew).heap[w4.heap.size]? = some (boxR8 p x0 x1 x2 x3 (.slice none 0 0) 0 0)) := World.alloc_heap_new w4 _
  have hz5 : w4.heap.size + 1 ≤ ((w4.alloc (boxR8 p x0 x1 x2 x3 (.slice none 0 0) 0 0)).drew).heap.size := by simp
  have a1' := hx5.cell a1
  unfold boxR8 at hx5 HRB5 hz5 a1'
  generalize ((w4.alloc (.cells #[.int .i64 p, .int .i64 x0, .int .i64 x1, .int .i64 x2, .int .i64 x3, .slice none 0 0, .int .i64 0, .int .i64 0] 26)).drew) = W5 at *
  have E2 : IntKind.i64.wrap ((nn : Int) + 2) = (nn : Int) + 2 := IntWalk.i64_in _ (by omega)
  have hL5 := HQL.out
  have e1 : (2 : Int) ≤ (nn : Int) + 2 := by omega
  have e2 : (nn : Int) + 2 ≤ (L : Int) := by omega
  have e3 : ¬ L = 2 := by omega
  have e4 : ((nn : Int) + 2).toNat = nn + 2 := by omega
  have e5 : ¬ (L : Int) = 2 := by omega
  clear a0 c0 c1 c2 c3
  clear hL5
  go_wp2
  clear e1 e2 e4 E2 a1' t1
  have hctx : ReadAt s w w1 w4 b L nn vb vo vc p x0 x1 x2 x3 := ⟨HTT.out, HMM.out, hs, HL.out, HQL.out, hn01, hnn, HPN.out, HMO.out, HXX.out, HQ0.out, HQ1.out, hx1, hx2.trans hx4, hy4, HST.out, a1, rfl⟩
  refine readl_loop s w w1 w4 b L nn vb vo vc p x0 x1 x2 x3 hctx _ _ _ _ _ _ _ _ _ _ _ _ _ _ _ _ _ _ _ _ _ _ _ _ _ _ _ _ _ _ _ _ _ _ _ _ _ _ _ _ _ _ _ _ _ _ _ _ _ _ _ _ _ _ _ _ _ _ _ _ _ _ _ _ _ _ _ _ _ _ _ _ _ _ _ _ _ _ _ _ _ _ _ _ _ _ _ _ _ _ _ _ _ _ _ _ _ _ _ _ _ _ ⟨0, _, Nat.zero_le _, rfl, World.ownsRow_nil _ _ _ _, HRB5, (fun i h => by omega), hx5⟩ (fun a w' hX => ?_)
  unfold ReadX at hX
  obtain ⟨u8, hX⟩ := hX
  obtain ⟨u9, hX⟩ := hX
  obtain ⟨u54, hX⟩ := hX
  obtain ⟨u55, hX⟩ := hX
  obtain ⟨u56, hX⟩ := hX
  obtain ⟨u57, hX⟩ := hX
  obtain ⟨u58, hX⟩ := hX
  obtain ⟨u59, hX⟩ := hX
  obtain ⟨u60, hX⟩ := hX
  obtain ⟨u61, hX⟩ := hX
  obtain ⟨u62, hX⟩ := hX
  obtain ⟨u63, hX⟩ := hX
  obtain ⟨u64, hX⟩ := hX
  obtain ⟨u65, hX⟩ := hX
  obtain ⟨u66, hX⟩ := hX
  obtain ⟨u67, hX⟩ := hX
  obtain ⟨u68, hX⟩ := hX
  obtain ⟨u69, hX⟩ := hX
  obtain ⟨u70, hX⟩ := hX
  obtain ⟨u71, hX⟩ := hX
  obtain ⟨u72, hX⟩ := hX
  obtain ⟨u73, hX⟩ := hX
  obtain ⟨u74, hX⟩ := hX
  obtain ⟨u75, hX⟩ := hX
  obtain ⟨u76, hX⟩ := hX
  obtain ⟨u77, hX⟩ := hX
  obtain ⟨u78, hX⟩ := hX
  obtain ⟨u79, hX⟩ := hX
  obtain ⟨u80, hX⟩ := hX
  obtain ⟨u81, hX⟩ := hX
  obtain ⟨u82, hX⟩ := hX
  obtain ⟨u83, hX⟩ := hX
  obtain ⟨u84, hX⟩ := hX
  obtain ⟨hv, hrel, rfl⟩ := hX
  rename_i hK
  refine hK _ _ ?_
  exact readt_any s w w1 w4 b L nn vb vo vc p x0 x1 x2 x3 hctx _ _ _ _ _ _ _ _ _ _ _ _ _ _ _ _ _ _ _ _ _ _ _ _ _ _ _ _ _ _ _ _ _ _ _ _ _ _ _ _ _ _ _ _ _ _ _ _ _ _ _ _ _ _ _ _ _ _ _ _ _ _ _ _ _ _ _ _ u8 u9 u54 u55 u56 u57 u58 u59 u60 u61 u62 u63 u64 u65 u66 u67 u68 u69 u70 u71 u72 u73 u74 u75 u76 u77 u78 u79 u80 u81 u82 u83 u84 hv w' hrel
theorem read_any (s : List UInt8) (w : World) (ht : TabOk w) (hm : MaxOk w) (hs : s.length ≤ 500) : Calls Tryz.prog 52 #[strV s] w (ReadPost s w) := by
  cases q0 : toldOk wRound 2 (lineAt s 0) with
  | false => exact read_e0 s w ht hm hs q0
  | true =>
  by_cases qL : (splitL 10 s).length = manyOf s + 5
  · cases q1 : toldOk wWeigh 4 (lineAt s 1) with
    | false => exact read_e2 s w ht hm hs q0 qL q1
    | true => exact read_main s w ht hm hs q0 qL q1
  · exact read_e1 s w ht hm hs q0 qL
end Go.Proofs.YtbeophjdiddomaaGreatDoor
