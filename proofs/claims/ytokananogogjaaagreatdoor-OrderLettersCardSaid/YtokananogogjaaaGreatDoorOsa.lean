/- The reference's Same and SameLists, at equal lists. -/
import Derived.Test.YtokananogogjaaaGreatDoorOc
import Derived.Test.YtokananogogjaaaGreatDoorHeld
namespace Go.Proofs.YtokananogogjaaaGreatDoor
open Go.RowKit
set_option maxRecDepth 100000 in
set_option maxHeartbeats 1000000 in
theorem sameI_yes (va vb : Value) (xs : List Int) (w : World) (ha : IntsAt w va xs) (hb : IntsAt w vb xs) :
  Calls Tryz.prog 39 #[va, vb] w fun e w' => e = .returned (.bool true) ∧ Ext w w' := by
 obtain ⟨a, c, rfl, h1, h2, h3⟩ := ha.open
 obtain ⟨a', c', rfl, h1', h2', h3'⟩ := hb.open
 have hmix : Tryz.prog.follows .mixedOrders = true := by kernel_rfl
 have t1 : ((xs.length : Int) != (xs.length : Int)) = false := by simp
 have H3 := Lib.hid h3
 have H3' := Lib.hid h3'
 clear h3 h3' ha hb
 go_enter Tryz.func39, Tryz.ntmps39
 go_wp2
 go_loopw [5] (fun i wr => ∃ k : Nat, k ≤ xs.length ∧ i = .int .i64 k ∧ Ext w wr) (fun i _ => xs.length - (intOf i).toNat)
 case atStart => exact ⟨0, Nat.zero_le _, rfl, Ext.refl _⟩
 case round =>
  obtain ⟨k, hk, rfl, hx⟩ := hrel
  by_cases hlt : k < xs.length
  ·obtain ⟨b, o, x, rfl, hxk, hc⟩ := H3.out k hlt
   obtain ⟨b', o', y, rfl, hyk, hc'⟩ := H3'.out k hlt
   have hxy : y = x := by have := hyk.out; rw [hxk.out] at this; exact (Option.some.inj this).symm
   subst hxy
   have d0 := hx.cell hc
   have d1 := hx.cell hc'
   have x2 : decide ((k : Int) < (xs.length : Int)) = true := by simpa using hlt
   have i1 : (0 : Int) ≤ (k : Int) := by omega
   have i2 : (k : Int) < (xs.length : Int) := by omega
   have t3 : (y != y) = false := by simp
   clear hc hc'
   go_wp2
   go_quiet (fail)
   go_wp2
   exact ⟨⟨k + 1, by omega, by go_num, hx.drewN _⟩, by simp [intOf]; omega⟩
  ·have x2 : decide ((k : Int) < (xs.length : Int)) = false := by simp; omega
   go_wp2
   go_ret
   exact ⟨rfl, hx⟩
set_option maxRecDepth 100000 in
set_option maxHeartbeats 1000000 in
theorem sameLL_yes (va vb : Value) (xss : List (List Int)) (w : World) (ha : IntRowsAt w va xss) (hb : IntRowsAt w vb xss) :
  Calls Tryz.prog 40 #[va, vb] w fun e w' => e = .returned (.bool true) ∧ Ext w w' := by
 obtain ⟨a, c, rfl, h1, h2, h3⟩ := ha.open
 obtain ⟨a', c', rfl, h1', h2', h3'⟩ := hb.open
 have hmix : Tryz.prog.follows .mixedOrders = true := by kernel_rfl
 have t1 : ((xss.length : Int) != (xss.length : Int)) = false := by simp
 have H3 := Lib.hid h3
 have H3' := Lib.hid h3'
 clear h3 h3' ha hb
 go_enter Tryz.func40, Tryz.ntmps40
 go_wp2
 go_loopw [5] (fun i wr => ∃ k : Nat, k ≤ xss.length ∧ i = .int .i64 k ∧ Ext w wr) (fun i _ => xss.length - (intOf i).toNat)
 case atStart => exact ⟨0, Nat.zero_le _, rfl, Ext.refl _⟩
 case round =>
  obtain ⟨k, hk, rfl, hx⟩ := hrel
  by_cases hlt : k < xss.length
  ·obtain ⟨b, o, x, ra, rc, rfl, hxk, hc, hxi, _, _⟩ := H3.out k hlt
   obtain ⟨b', o', y, ra', rc', rfl, hyk, hc', hyi, _, _⟩ := H3'.out k hlt
   have hxy : y = x := by have := hyk.out; rw [hxk.out] at this; exact (Option.some.inj this).symm
   subst hxy
   have d0 := hx.cell hc
   have d1 := hx.cell hc'
   have x2 : decide ((k : Int) < (xss.length : Int)) = true := by simpa using hlt
   have i1 : (0 : Int) ≤ (k : Int) := by omega
   have i2 : (k : Int) < (xss.length : Int) := by omega
   have HSA := Lib.hid (fun W (h : Ext wr W) => sameI_yes (.slice ra y.length rc) (.slice ra' y.length rc') y W (hxi.ext (hx.trans h)) (hyi.ext (hx.trans h)))
   have HF := Lib.hid (fun W (h : Ext wr W) => (⟨h.cell d0, h.cell d1⟩ : _ ∧ _))
   clear hc hc' d0 d1 hxi hyi
   go_upto_region 6 with fail
   refine region_reads (C := fun W => Ext wr W) (by kernel_rfl) (by kernel_rfl) ((Ext.refl wr).drew) ?_
   repeat (first | go_big_quiet_skip | (go_big_quiet_want; go_big_quiet_op; first | go_big_quiet_on | (refine ⟨_, fun W hW => rfl, ?_⟩; go_big_quiet_on)) | (go_big_quiet_want; refine ⟨?_, fun W hW => ?_, ?_⟩; rotate_left; (· (obtain ⟨d0, d1⟩ := HF.out W hW); go_simp; (first | with_reducible rfl | (go_at_call 39; refine (HSA.out W hW).mono ?_; rintro e w' ⟨rfl, hx1⟩; constructor; with_reducible rfl; exact hW.trans hx1))); (try simp only [Act.put, yA, yB, yC]); go_big_quiet_on))
   refine wpQuiet_nil ?_
   intro wq hq
   go_wp2
   exact ⟨⟨k + 1, by omega, by go_num, hx.trans hq⟩, by simp [intOf]; omega⟩
  ·have x2 : decide ((k : Int) < (xss.length : Int)) = false := by simp; omega
   go_wp2
   go_ret
   exact ⟨rfl, hx⟩
end Go.Proofs.YtokananogogjaaaGreatDoor

/- The reference's SameSpans, at equal lists. -/
namespace Go.Proofs.YtokananogogjaaaGreatDoor
open Go.RowKit
theorem two_fields {l : List Field} {n1 n2 : String} {t1 t2 o1 o2 : Nat} (h : (l.map fun f => (f.name, f.type, f.offset)) = [(n1, t1, o1), (n2, t2, o2)]) : ∃ f1 f2 : Field, l = [f1, f2] ∧ f1.name = n1 ∧ f1.type = t1 ∧ f1.offset = o1 ∧ f2.name = n2 ∧ f2.type = t2 ∧ f2.offset = o2 := by
 match l, h with
 | [f1, f2], h => simp at h; exact ⟨f1, f2, rfl, h.1.1, h.1.2.1, h.1.2.2, h.2.1, h.2.2.1, h.2.2.2⟩
theorem span_fields : ((Tryz.prog.fieldsOf 51).toList.map fun f => (f.name, f.type, f.offset)) = [("Low", 3, 0), ("High", 3, 1)] := by kernel_rfl
theorem span_under : Tryz.prog.underlying 51 = some (.struct (Tryz.prog.fieldsOf 51)) := by kernel_rfl
theorem span_held : Tryz.prog.stoodInHeld 51 = false := by kernel_rfl
theorem span_guard : Tryz.prog.eqGuardType Tryz.prog.depth 51 = false := by kernel_rfl
theorem span_equal (a b c d : Int) (w : World) : (Op.equalIn 10000 51 (.agg #[.int .i64 a, .int .i64 b]) (.agg #[.int .i64 c, .int .i64 d])).run Tryz.prog w = .ok (a == c && b == d) w := by
 obtain ⟨f1, f2, hf, n1, t1, o1, n2, t2, o2⟩ := two_fields span_fields
 have hu := Tryz.underlying3
 rw [run_equalIn_struct w 9999 _ _ _ span_under span_held, hf]
 cases h1 : (a == c) <;> cases h2 : (b == d) <;> simp [Op.eqFields, go_sem, n1, t1, o1, n2, t2, o2, hu, h1, h2]
theorem span_neq (a b c d : Int) (w : World) : (binOp .neq 51 (.agg #[.int .i64 a, .int .i64 b]) (.agg #[.int .i64 c, .int .i64 d])).run Tryz.prog w = .ok (.bool (!(a == c && b == d))) w := by
 rw [run_neq_struct, span_equal]; rfl
def spanC (s : Int × Int) : List Value := [.int .i64 s.1, .int .i64 s.2]
def SpansAt (w : World) (v : Value) (xs : List (Int × Int)) : Prop := RowOf spanC w v xs
set_option maxRecDepth 100000 in
set_option maxHeartbeats 1000000 in
theorem sameS_yes (va vb : Value) (xs : List (Int × Int)) (w : World) (ha : SpansAt w va xs) (hb : SpansAt w vb xs) :
  Calls Tryz.prog 41 #[va, vb] w fun e w' => e = .returned (.bool true) ∧ Ext w w' := by
 obtain ⟨a, c, rfl, h1, h2, h3⟩ := (RowOf.open2 (f := spanC) (f0 := fun s => .int .i64 s.1) (f1 := fun s => .int .i64 s.2) (fun _ => rfl) ha)
 obtain ⟨a', c', rfl, h1', h2', h3'⟩ := (RowOf.open2 (f := spanC) (f0 := fun s => .int .i64 s.1) (f1 := fun s => .int .i64 s.2) (fun _ => rfl) hb)
 have hmix : Tryz.prog.follows .mixedOrders = true := by kernel_rfl
 have hsg := span_guard
 have hsn := span_neq
 have t1 : ((xs.length : Int) != (xs.length : Int)) = false := by simp
 have H3 := Lib.hid h3
 have H3' := Lib.hid h3'
 clear h3 h3' ha hb
 go_enter Tryz.func41, Tryz.ntmps41
 go_wp2
 go_loopw [5] (fun i wr => ∃ k : Nat, k ≤ xs.length ∧ i = .int .i64 k ∧ Ext w wr) (fun i _ => xs.length - (intOf i).toNat)
 case atStart => exact ⟨0, Nat.zero_le _, rfl, Ext.refl _⟩
 case round =>
  obtain ⟨k, hk, rfl, hx⟩ := hrel
  by_cases hlt : k < xs.length
  ·obtain ⟨b, o, x, rfl, hxk, hc, hd⟩ := H3.out k hlt
   obtain ⟨b', o', y, rfl, hyk, hc', hd'⟩ := H3'.out k hlt
   have hxy : y = x := by have := hyk.out; rw [hxk.out] at this; exact (Option.some.inj this).symm
   subst hxy
   have d0 := hx.cell hc
   have d1 := hx.cell hc'
   have d2 := hx.cell hd
   have d3 := hx.cell hd'
   have x2 : decide ((k : Int) < (xs.length : Int)) = true := by simpa using hlt
   have i1 : (0 : Int) ≤ (k : Int) := by omega
   have i2 : (k : Int) < (xs.length : Int) := by omega
   obtain ⟨x1, x2'⟩ := y
   simp only at d0 d1 d2 d3
   clear hc hc' hd hd'
   go_wp2
   go_quiet (fail)
   go_wp2
   exact ⟨⟨k + 1, by omega, by go_num, hx.drewN _⟩, by simp [intOf]; omega⟩
  ·have x2 : decide ((k : Int) < (xs.length : Int)) = false := by simp; omega
   go_wp2
   go_ret
   exact ⟨rfl, hx⟩
end Go.Proofs.YtokananogogjaaaGreatDoor
