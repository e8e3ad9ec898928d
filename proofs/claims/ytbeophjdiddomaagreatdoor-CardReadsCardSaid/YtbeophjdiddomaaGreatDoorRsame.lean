/- The reference's SameRound, at one round twice. -/
import Derived.Test.YtbeophjdiddomaaGreatDoorSame
import Derived.Test.YtbeophjdiddomaaGreatDoorRefa
namespace Go.Proofs.YtbeophjdiddomaaGreatDoor
open Go.RowKit

theorem six_fields {l : List Field} {n1 n2 n3 n4 n5 n6 : String} {t1 t2 t3 t4 t5 t6 o1 o2 o3 o4 o5 o6 : Nat} (h : (l.map fun f => (f.name, f.type, f.offset)) = [(n1, t1, o1), (n2, t2, o2), (n3, t3, o3), (n4, t4, o4), (n5, t5, o5), (n6, t6, o6)]) :
    ∃ f1 f2 f3 f4 f5 f6 : Field, l = [f1, f2, f3, f4, f5, f6] ∧ (f1.name = n1 ∧ f1.type = t1 ∧ f1.offset = o1) ∧ (f2.name = n2 ∧ f2.type = t2 ∧ f2.offset = o2) ∧ (f3.name = n3 ∧ f3.type = t3 ∧ f3.offset = o3) ∧ (f4.name = n4 ∧ f4.type = t4 ∧ f4.offset = o4) ∧ (f5.name = n5 ∧ f5.type = t5 ∧ f5.offset = o5) ∧ f6.name = n6 ∧ f6.type = t6 ∧ f6.offset = o6 := by
  match l, h with
  | [f1, f2, f3, f4, f5, f6], h => simp at h; exact ⟨f1, f2, f3, f4, f5, f6, rfl, ⟨h.1.1, h.1.2.1, h.1.2.2⟩, ⟨h.2.1.1, h.2.1.2.1, h.2.1.2.2⟩, ⟨h.2.2.1.1, h.2.2.1.2.1, h.2.2.1.2.2⟩, ⟨h.2.2.2.1.1, h.2.2.2.1.2.1, h.2.2.2.1.2.2⟩, ⟨h.2.2.2.2.1.1, h.2.2.2.2.1.2.1, h.2.2.2.2.1.2.2⟩, h.2.2.2.2.2.1, h.2.2.2.2.2.2.1, h.2.2.2.2.2.2.2⟩
theorem house_fields : ((Tryz.prog.fieldsOf 31).toList.map fun f => (f.name, f.type, f.offset)) = [("Out", 3, 0), ("Cards", 3, 1), ("Full", 3, 2), ("Loose", 3, 3), ("Miss", 3, 4), ("Weighed", 3, 5)] := by kernel_rfl
theorem house_under : Tryz.prog.underlying 31 = some (.struct (Tryz.prog.fieldsOf 31)) := by kernel_rfl
theorem house_held : Tryz.prog.stoodInHeld 31 = false := by kernel_rfl
theorem house_guard : Tryz.prog.eqGuardType Tryz.prog.depth 31 = false := by kernel_rfl
theorem house_equal (a b c d e f : Int) (w : World) : (Op.equalIn 10000 31 (.agg #[.int .i64 a, .int .i64 b, .int .i64 c, .int .i64 d, .int .i64 e, .int .i64 f]) (.agg #[.int .i64 a, .int .i64 b, .int .i64 c, .int .i64 d, .int .i64 e, .int .i64 f])).run Tryz.prog w = .ok true w := by
  obtain ⟨f1, f2, f3, f4, f5, f6, hf, ⟨n1, t1, o1⟩, ⟨n2, t2, o2⟩, ⟨n3, t3, o3⟩, ⟨n4, t4, o4⟩, ⟨n5, t5, o5⟩, n6, t6, o6⟩ := six_fields house_fields
  have hu := Tryz.underlying3
  rw [run_equalIn_struct w 9999 _ _ _ house_under house_held, hf]
  simp [Op.eqFields, go_sem, n1, t1, o1, n2, t2, o2, n3, t3, o3, n4, t4, o4, n5, t5, o5, n6, t6, o6, hu]
theorem house_neq (a b c d e f : Int) (w : World) : (binOp .neq 31 (.agg #[.int .i64 a, .int .i64 b, .int .i64 c, .int .i64 d, .int .i64 e, .int .i64 f]) (.agg #[.int .i64 a, .int .i64 b, .int .i64 c, .int .i64 d, .int .i64 e, .int .i64 f])).run Tryz.prog w = .ok (.bool false) w := by
  rw [run_neq_struct, house_equal]; rfl
set_option maxRecDepth 100000 in
set_option maxHeartbeats 8000000 in
theorem rsame_any (va vb : Value) (r : Round) (w : World) (ha : RoundAt w va r) (hb : RoundAt w vb r) : Calls Tryz.prog 21 #[va, vb] w fun e w' => e = .returned (.bool true) ∧ Ext w w' := by
  obtain ⟨av, rfl, hh⟩ := ha
  obtain ⟨bv, rfl, hk⟩ := hb
  obtain ⟨a, c, rfl, h1, h2, h3⟩ := hh.open
  obtain ⟨a', c', rfl, h1', h2', h3'⟩ := hk.open
  have hs := fun w1 => span_eql r.lo r.hi r.lo r.hi w1
  simp only [beq_self_eq_true, Bool.and_self] at hs
  have hhg := house_guard
  have hhn := house_neq
  have hmix : Tryz.prog.follows .mixedOrders = true := by kernel_rfl
  unfold Round.cells at *
  have hx0 : Ext w ((w.alloc (.cells #[.int .i64 r.per, .int .i64 r.lo, .int .i64 r.hi, .int .i64 r.card, .int .i64 r.slack, .slice a r.houses.length c, .int .i64 r.all, .int .i64 r.off] 26)).alloc (.cells #[.int .i64 r.per, .int .i64 r.lo, .int .i64 r.hi, .int .i64 r.card, .int .i64 r.slack, .slice a' r.houses.length c', .int .i64 r.all, .int .i64 r.off] 26)) := ((Ext.refl w).alloc _).alloc _
  have HBA : Hid (((w.alloc (.cells #[.int .i64 r.per, .int .i64 r.lo, .int .i64 r.hi, .int .i64 r.card, .int .i64 r.slack, .slice a r.houses.length c, .int .i64 r.all, .int .i64 r.off] 26)).alloc (.cells #[.int .i64 r.per, .int .i64 r.lo, .int .i64 r.hi, .int .i64 r.card, .int .i64 r.slack, .slice a' r.houses.length c', .int .i64 r.all, .int .i64 r.off] 26)).heap[w.heap.size]? = some (.cells #[.int .i64 r.per, .int .i64 r.lo, .int .i64 r.hi, .int .i64 r.card, .int .i64 r.slack, .slice a r.houses.length c, .int .i64 r.all, .int .i64 r.off] 26 (0, 0))) := (two_new w _ _).1
  have HBB : Hid (((w.alloc (.cells #[.int .i64 r.per, .int .i64 r.lo, .int .i64 r.hi, .int .i64 r.card, .int .i64 r.slack, .slice a r.houses.length c, .int .i64 r.all, .int .i64 r.off] 26)).alloc (.cells #[.int .i64 r.per, .int .i64 r.lo, .int .i64 r.hi, .int .i64 r.card, .int .i64 r.slack, .slice a' r.houses.length c', .int .i64 r.all, .int .i64 r.off] 26)).heap[w.heap.size + 1]? = some (.cells #[.int .i64 r.per, .int .i64 r.lo, .int .i64 r.hi, .int .i64 r.card, .int .i64 r.slack, .slice a' r.houses.length c', .int .i64 r.all, .int .i64 r.off] 26 (0, 0))) := (two_new w _ _).2
  have H3 := Lib.hid h3
  have H3' := Lib.hid h3'
  clear h3 h3' hh hk
  go_enter Tryz.func21, Tryz.ntmps21
  go_wp2
  go_loopw [5] (fun i wr => ∃ k : Nat, k ≤ r.houses.length ∧ i = .int .i64 k ∧ Ext w wr ∧ Hid (wr.heap[w.heap.size]? = some (.cells #[.int .i64 r.per, .int .i64 r.lo, .int .i64 r.hi, .int .i64 r.card, .int .i64 r.slack, .slice a r.houses.length c, .int .i64 r.all, .int .i64 r.off] 26 (0, 0))) ∧ Hid (wr.heap[w.heap.size + 1]? = some (.cells #[.int .i64 r.per, .int .i64 r.lo, .int .i64 r.hi, .int .i64 r.card, .int .i64 r.slack, .slice a' r.houses.length c', .int .i64 r.all, .int .i64 r.off] 26 (0, 0)))) (fun i _ => r.houses.length - (intOf i).toNat)
  case atStart => exact ⟨0, Nat.zero_le _, rfl, hx0, HBA, HBB⟩
  case round =>
    clear hx0 HBA HBB
    obtain ⟨k, hk, rfl, hx, hb1, hb2⟩ := hrel
    obtain ⟨z0, z1, z2, z3, z4, z5, z6, z7⟩ := round_cells hb1.out
    obtain ⟨y0, y1, y2, y3, y4, y5, y6, y7⟩ := round_cells hb2.out
    by_cases hlt : k < r.houses.length
    · obtain ⟨b, o, x, rfl, hxk, c0, c1, c2, c3, c4, c5⟩ := H3.out k hlt
      obtain ⟨b', o', y, rfl, hyk, e0, e1, e2, e3, e4, e5⟩ := H3'.out k hlt
      have hxy : x = y := Option.some.inj (hxk.out.symm.trans hyk.out)
      subst hxy
      have d0 := hx.cell c0
      have d1 := hx.cell c1
      have d2 := hx.cell c2
      have d3 := hx.cell c3
      have d4 := hx.cell c4
      have d5 := hx.cell c5
      have f0 := hx.cell e0
      have f1 := hx.cell e1
      have f2 := hx.cell e2
      have f3 := hx.cell e3
      have f4 := hx.cell e4
      have f5 := hx.cell e5
      clear c0 c1 c2 c3 c4 c5 e0 e1 e2 e3 e4 e5
      have x2 : decide ((k : Int) < (r.houses.length : Int)) = true := by simpa using hlt
      go_wp2
      go_quiet (fail)
      go_wp2
      exact ⟨⟨k + 1, by omega, by go_num, hx.drewN _, hb1.out, hb2.out⟩, by simp [intOf]; omega⟩
    · have hke : k = r.houses.length := by omega
      subst hke
      have x2 : decide ((r.houses.length : Int) < (r.houses.length : Int)) = false := by simp
      go_wp2
      go_ret
      exact ⟨rfl, hx⟩
end Go.Proofs.YtbeophjdiddomaaGreatDoor
