/- The reference's SameBooks at equal books. -/
import Derived.Test.YtoohhefegfpipaaGreatDoorOsa
namespace Go.Proofs.YtoohhefegfpipaaGreatDoor
open Go.RowKit
def zeroB : Book := { goods := [], editions := 0, moves := 0, entries := [] }
theorem one_field {l : List Field} {n1 : String} {t1 o1 : Nat} (h : (l.map fun f => (f.name, f.type, f.offset)) = [(n1, t1, o1)]) : ∃ f1 : Field, l = [f1] ∧ f1.name = n1 ∧ f1.type = t1 ∧ f1.offset = o1 := by
 match l, h with
 | [f1], h => simp at h; exact ⟨f1, rfl, h.1, h.2.1, h.2.2⟩
theorem three_fields {l : List Field} {n1 n2 n3 : String} {t1 t2 t3 o1 o2 o3 : Nat} (h : (l.map fun f => (f.name, f.type, f.offset)) = [(n1, t1, o1), (n2, t2, o2), (n3, t3, o3)]) : ∃ f1 f2 f3 : Field, l = [f1, f2, f3] ∧ (f1.name = n1 ∧ f1.type = t1 ∧ f1.offset = o1) ∧ (f2.name = n2 ∧ f2.type = t2 ∧ f2.offset = o2) ∧ f3.name = n3 ∧ f3.type = t3 ∧ f3.offset = o3 := by
 match l, h with
 | [f1, f2, f3], h => simp at h; exact ⟨f1, f2, f3, rfl, h.1, h.2.1, h.2.2⟩
theorem good_fields : ((Tryz.prog.fieldsOf 124).toList.map fun f => (f.name, f.type, f.offset)) = [("Line", 3, 0)] := by kernel_rfl
theorem good_under : Tryz.prog.underlying 124 = some (.struct (Tryz.prog.fieldsOf 124)) := by kernel_rfl
theorem good_held : Tryz.prog.stoodInHeld 124 = false := by kernel_rfl
theorem good_guard : Tryz.prog.eqGuardType Tryz.prog.depth 124 = false := by kernel_rfl
theorem good_equal (a b : Int) (w : World) : (Op.equalIn 10000 124 (.agg #[.int .i64 a]) (.agg #[.int .i64 b])).run Tryz.prog w = .ok (a == b) w := by
 obtain ⟨f1, hf, n1, t1, o1⟩ := one_field good_fields
 have hu := Tryz.underlying3
 rw [run_equalIn_struct w 9999 _ _ _ good_under good_held, hf]
 cases h1 : (a == b) <;> simp [Op.eqFields, go_sem, n1, t1, o1, hu, h1]
theorem good_neq (a b : Int) (w : World) : (binOp .neq 124 (.agg #[.int .i64 a]) (.agg #[.int .i64 b])).run Tryz.prog w = .ok (.bool (!(a == b))) w := by
 rw [run_neq_struct, good_equal]; rfl
theorem entry_fields : ((Tryz.prog.fieldsOf 126).toList.map fun f => (f.name, f.type, f.offset)) = [("Edition", 3, 0), ("Number", 3, 1), ("Good", 3, 2)] := by kernel_rfl
theorem entry_under : Tryz.prog.underlying 126 = some (.struct (Tryz.prog.fieldsOf 126)) := by kernel_rfl
theorem entry_held : Tryz.prog.stoodInHeld 126 = false := by kernel_rfl
theorem entry_guard : Tryz.prog.eqGuardType Tryz.prog.depth 126 = false := by kernel_rfl
theorem entry_equal (a b c d e f : Int) (w : World) : (Op.equalIn 10000 126 (.agg #[.int .i64 a, .int .i64 b, .int .i64 c]) (.agg #[.int .i64 d, .int .i64 e, .int .i64 f])).run Tryz.prog w = .ok (a == d && (b == e && c == f)) w := by
 obtain ⟨f1, f2, f3, hf, ⟨n1, t1, o1⟩, ⟨n2, t2, o2⟩, n3, t3, o3⟩ := three_fields entry_fields
 have hu := Tryz.underlying3
 rw [run_equalIn_struct w 9999 _ _ _ entry_under entry_held, hf]
 cases h1 : (a == d) <;> cases h2 : (b == e) <;> cases h3 : (c == f) <;> simp [Op.eqFields, go_sem, n1, t1, o1, n2, t2, o2, n3, t3, o3, hu, h1, h2, h3]
theorem entry_neq (a b c d e f : Int) (w : World) : (binOp .neq 126 (.agg #[.int .i64 a, .int .i64 b, .int .i64 c]) (.agg #[.int .i64 d, .int .i64 e, .int .i64 f])).run Tryz.prog w = .ok (.bool (!(a == d && (b == e && c == f)))) w := by
 rw [run_neq_struct, entry_equal]; rfl
set_option maxRecDepth 100000 in
set_option maxHeartbeats 4000000 in
theorem sameB_yes (va vb : Value) (b : Book) (w : World) (ha : BookAt w va b) (hb : BookAt w vb b) :
  Calls Tryz.prog 44 #[va, vb] w fun e w' => e = .returned (.bool true) ∧ Ext w w' := by
 have ha0 := ha
 have hb0 := hb
 obtain ⟨ga, gc, ea, ec, rfl, hgl, hel⟩ := ha.open
 obtain ⟨_, _, hv, hg, he⟩ := ha0
 cases hv
 obtain ⟨ga', gc', ea', ec', rfl, _, _⟩ := hb.open
 obtain ⟨_, _, hv, hg', he'⟩ := hb0
 cases hv
 obtain ⟨_, _, hv, _, _, g3⟩ := hg.open
 cases hv
 obtain ⟨_, _, hv, _, _, g3'⟩ := hg'.open
 cases hv
 obtain ⟨_, _, hv, _, _, e3⟩ := RowOf.open3 (f := entryC) (f0 := fun x => .int .i64 x.1) (f1 := fun x => .int .i64 x.2.1) (f2 := fun x => .int .i64 x.2.2) (fun _ => rfl) he
 cases hv
 obtain ⟨_, _, hv, _, _, e3'⟩ := RowOf.open3 (f := entryC) (f0 := fun x => .int .i64 x.1) (f1 := fun x => .int .i64 x.2.1) (f2 := fun x => .int .i64 x.2.2) (fun _ => rfl) he'
 cases hv
 have hmix : Tryz.prog.follows .mixedOrders = true := by kernel_rfl
 obtain ⟨W0, hW0⟩ : ∃ W0, W0 = (w.alloc (bookBox (.slice ga b.goods.length gc) b (.slice ea b.entries.length ec))).alloc (bookBox (.slice ga' b.goods.length gc') b (.slice ea' b.entries.length ec')) := ⟨_, rfl⟩
 have HX0 := Lib.hid (show Ext w W0 by rw [hW0]; exact ((Ext.refl w).alloc _).alloc _)
 have HC := Lib.hid (fun W (h : Ext W0 W) => And.intro (BoxAt.ext (show BoxAt W0 w.heap.size (.slice ga b.goods.length gc) b (.slice ea b.entries.length ec) by rw [hW0]; exact BoxAt.ext (BoxAt.new _ _ _ _) ((Ext.refl _).alloc _)) h) (BoxAt.ext (show BoxAt W0 (w.heap.size + 1) (.slice ga' b.goods.length gc') b (.slice ea' b.entries.length ec') by rw [hW0]; have h := BoxAt.new (w.alloc (bookBox (.slice ga b.goods.length gc) b (.slice ea b.entries.length ec))) (.slice ga' b.goods.length gc') b (.slice ea' b.entries.length ec'); rwa [show (w.alloc (bookBox (.slice ga b.goods.length gc) b (.slice ea b.entries.length ec))).heap.size = w.heap.size + 1 by simp] at h) h))
 have t0 : (b.editions != b.editions) = false := by simp
 have t1 : (b.moves != b.moves) = false := by simp
 have t2 : ((b.goods.length : Int) != (b.goods.length : Int)) = false := by simp
 have t3 : ((b.entries.length : Int) != (b.entries.length : Int)) = false := by simp
 have gg := good_guard
 have gn := good_neq
 have eg := entry_guard
 have en := entry_neq
 have HG := Lib.hid g3
 have HG' := Lib.hid g3'
 have HE := Lib.hid e3
 have HE' := Lib.hid e3'
 clear ha hb hg he hg' he' g3 g3' e3 e3' hgl hel
 go_enter Tryz.func44, Tryz.ntmps44
 go_upto_region 1 with fail
 rw [← hW0]
 obtain ⟨⟨z0, z1, z2, z3⟩, y0, y1, y2, y3⟩ := HC.out _ (Ext.refl _)
 clear hW0
 go_wp2
 clear z0 z1 z2 z3 y0 y1 y2 y3
 go_loopw [5] (fun i wr => ∃ k : Nat, k ≤ b.goods.length ∧ i = .int .i64 k ∧ Ext W0 wr) (fun i _ => b.goods.length - (intOf i).toNat)
 case atStart => exact ⟨0, Nat.zero_le _, rfl, Ext.refl _⟩
 case round =>
  obtain ⟨k, hk, rfl, hx⟩ := hrel
  obtain ⟨⟨z0, z1, z2, z3⟩, y0, y1, y2, y3⟩ := HC.out _ hx
  by_cases hlt : k < b.goods.length
  ·obtain ⟨p, o, x, rfl, hxk, hc⟩ := HG.out k hlt
   obtain ⟨p', o', y, rfl, hyk, hc'⟩ := HG'.out k hlt
   have hxy : y = x := by have := hyk.out; rw [hxk.out] at this; exact (Option.some.inj this).symm
   subst hxy
   have d0 := (HX0.out.trans hx).cell hc
   have d1 := (HX0.out.trans hx).cell hc'
   have x2 : decide ((k : Int) < (b.goods.length : Int)) = true := by simpa using hlt
   have i1 : (0 : Int) ≤ (k : Int) := by omega
   have i2 : (k : Int) < (b.goods.length : Int) := by omega
   have r0 : (y == y) = true := by simp
   clear hc hc' HE HE' hxk hyk
   go_wp2
   go_quiet (fail)
   go_wp2
   exact ⟨⟨k + 1, by omega, by go_num, hx.drewN _⟩, by simp [intOf]; omega⟩
  ·have x2 : decide ((k : Int) < (b.goods.length : Int)) = false := by simp; omega
   have HX1 := Lib.hid hx
   go_wp2
   clear z0 z1 z2 z3 y0 y1 y2 y3 hx
   go_loopw [6] (fun i wr => ∃ k : Nat, k ≤ b.entries.length ∧ i = .int .i64 k ∧ Ext W0 wr) (fun i _ => b.entries.length - (intOf i).toNat)
   case atStart => exact ⟨0, Nat.zero_le _, rfl, HX1.out⟩
   case round =>
    obtain ⟨k, hk, rfl, hx⟩ := hrel
    obtain ⟨⟨z0, z1, z2, z3⟩, y0, y1, y2, y3⟩ := HC.out _ hx
    by_cases hlt : k < b.entries.length
    ·obtain ⟨p, o, x, rfl, hxk, c0, c1, c2⟩ := HE.out k hlt
     obtain ⟨p', o', y, rfl, hyk, c0', c1', c2'⟩ := HE'.out k hlt
     have hxy : y = x := by have := hyk.out; rw [hxk.out] at this; exact (Option.some.inj this).symm
     subst hxy
     have d0 := (HX0.out.trans hx).cell c0
     have d1 := (HX0.out.trans hx).cell c1
     have d2 := (HX0.out.trans hx).cell c2
     have d3 := (HX0.out.trans hx).cell c0'
     have d4 := (HX0.out.trans hx).cell c1'
     have d5 := (HX0.out.trans hx).cell c2'
     have x3 : decide ((k : Int) < (b.entries.length : Int)) = true := by simpa using hlt
     have i1 : (0 : Int) ≤ (k : Int) := by omega
     have i2 : (k : Int) < (b.entries.length : Int) := by omega
     obtain ⟨u0, u1, u2⟩ := y
     simp only at d0 d1 d2 d3 d4 d5
     have r0 : (u0 == u0) = true := by simp
     have r1 : (u1 == u1) = true := by simp
     have r2 : (u2 == u2) = true := by simp
     clear c0 c1 c2 c0' c1' c2' hxk hyk
     go_wp2
     go_quiet (fail)
     go_wp2
     exact ⟨⟨k + 1, by omega, by go_num, hx.drewN _⟩, by simp [intOf]; omega⟩
    ·have x3 : decide ((k : Int) < (b.entries.length : Int)) = false := by simp; omega
     go_wp2
     go_ret
     exact ⟨rfl, HX0.out.trans hx⟩
end Go.Proofs.YtoohhefegfpipaaGreatDoor
