/- river.Read: the book of a text, or the errors. -/
import Derived.Test.YtdmdabhdcpjkiaaGreatDoorRead
import Derived.Recover
import Derived.RecoverIn
namespace Go.Proofs.YtdmdabhdcpjkiaaGreatDoor
open Go.RowKit
abbrev zeroBk : Value := .agg #[.int .i64 0, .slice none 0 0]
set_option maxHeartbeats 2000000 in
theorem readD_idle (p q : Value) (w : World) :
  CallsD Tryz.prog 63 #[p, q] .returning w fun e u' w' => e = .returned (.tuple #[]) ∧ u' = .returning ∧ w' = w := by
 refine callsD_of_wpS Tryz.func63 rfl fun c₀ cs hu => ?_
 apply wpS_seq
 apply wpS_region
 simp [wpOpsS, go_sem, recoverD, hu, Tryz.ntmps63, Exit.thenS]
 refine wpS_of_wp ?_
 go_wp2
 cases c₀
 simp_all [bodyPostS, results, Tryz.results63]
/-- The world behind the closure that has recovered. -/
abbrev doneW (w : World) (b eb : Nat) (why : ByteArray) : World := (((w.alloc (.cells #[.string why] 127)).setCell ⟨b, 0, none⟩ (.int .i64 0)).setCell ⟨b, 1, none⟩ (.slice none 0 0)).setCell ⟨eb, 0, none⟩ (.int .i64 4)
set_option maxRecDepth 100000 in
set_option maxHeartbeats 8000000 in
theorem readD_strange (b eb : Nat) (why : ByteArray) (x c0 c1 : Value) (w : World) (hb : Box2 w b c0 c1) (hc : w.cell? ⟨eb, 0, none⟩ = some x) (hz : w.frozen? ⟨eb, 0, none⟩ = false) (hne : eb ≠ b) :
  CallsD Tryz.prog 63 #[.pointer (some ⟨b, 0, none⟩), .pointer (some ⟨eb, 0, none⟩)] (.panicking [{ v := strangeV why, recovered := false }]) w fun e u' w' =>
   e = .returned (.tuple #[]) ∧ u' = .panicking [{ v := strangeV why, recovered := true }] ∧ w' = doneW w b eb why := by
 have hta : ∀ wq, (Instr.typeAssert (.iface 127 (.agg #[.string why])) 20 127 true).run Tryz.prog wq = .ok (.tuple #[.agg #[.string why], .bool true]) wq := fun wq => by kernel_rfl
 have hxa : Ext w (w.alloc (.cells #[.string why] 127)) := (Ext.refl w).alloc _
 have hbA := hb.ext hxa
 have hcA := hxa.cell hc
 have hzA := (hxa.frozen (lt_of_cell hc)).trans hz
 obtain ⟨a0, a1, a2, a3⟩ := hbA
 have hne2 : ¬ b = eb := fun e => hne e.symm
 unfold strangeV doneW
 clear hxa hb hc hz
 refine callsD_of_wpS Tryz.func63 rfl fun c₀ cs hu => ?_
 apply wpS_seq
 apply wpS_region
 simp [wpOpsS, go_sem, recoverD, hu, Tryz.ntmps63, Exit.thenS]
 refine wpS_of_wp ?_
 simp only [Array.replicate_succ, Array.replicate_zero, List.push_toArray, List.nil_append, List.cons_append]
 go_wp2
 cases c₀
 simp_all [bodyPostS, results, Tryz.results63]
/-- What Read answers. -/
def ReadRes (s : List UInt8) (w : World) (e : Ending) (w' : World) : Prop := ∃ (v : Value) (err : Int), e = .returned (.tuple #[v, .int .i64 err]) ∧ Ext w w' ∧ (200 < s.length → v = zeroBk ∧ err = 3) ∧ (s.length ≤ 200 → (¬ ∃ b, TextOf s b) → v = zeroBk ∧ err = 4) ∧
 (s.length ≤ 200 → ∀ b, TextOf s b → (isBookB b = true → err = 0 ∧ BookAt w' v b) ∧ (isBookB b = false → err = 2 ∧ v = zeroBk))
theorem read_results {tmps : Array Value} {W : World} {b eb : Nat} {c0 c1 v : Value} (hp : tmps.getD 2 undef = .pointer (some ⟨b, 0, none⟩)) (hq : tmps.getD 3 undef = .pointer (some ⟨eb, 0, none⟩)) (h0 : W.cell? ⟨b, 0, none⟩ = some c0) (h1 : W.cell? ⟨b, 1, none⟩ = some c1) (hc : W.cell? ⟨eb, 0, none⟩ = some v) :
  (results Tryz.f26 tmps).run Tryz.prog W = .ok (.tuple #[.agg #[c0, c1], v]) W := by
 have hp' : tmps[2]?.getD undef = .pointer (some ⟨b, 0, none⟩) := by simpa using hp
 have hq' : tmps[3]?.getD undef = .pointer (some ⟨eb, 0, none⟩) := by simpa using hq
 simp [results, Tryz.results26, hp', hq', asAddr, go_sem, h0, h1, hc]
abbrev startW (w : World) : World := (w.alloc (.cells #[.int .i64 0, .slice none 0 0] 24)).alloc (.cells #[.int .i64 0] 32)
theorem start_boxes (w : World) : Box2 (startW w) w.heap.size (.int .i64 0) (.slice none 0 0) ∧ (startW w).cell? ⟨w.heap.size + 1, 0, none⟩ = some (.int .i64 0) ∧ (startW w).frozen? ⟨w.heap.size + 1, 0, none⟩ = false ∧ Ext w (startW w) :=
 ⟨(Box2.new w _ _ _).ext ((Ext.refl _).alloc _), by go_simp, by go_simp, ((Ext.refl w).alloc _).alloc _⟩
set_option maxRecDepth 100000 in
set_option maxHeartbeats 8000000 in
theorem read_long (s : List UInt8) (w : World) (hs : 200 < s.length) (hs2 : s.length ≤ 1000) : Calls Tryz.prog 26 #[strV s] w (ReadRes s w) := by
 have hmf : ∀ (fn : Fn) (first cap : Array Value) (w : World), (Instr.makeFunc fn first cap).run Tryz.prog w = .ok (.func fn first cap) w := fun _ _ _ _ => rfl
 obtain ⟨⟨a0, a1, a2, a3⟩, hc, hf, hx⟩ := start_boxes w
 have HX := Lib.hid hx
 have t1 : decide ((200 : Int) < (s.length : Int)) = true := by simp; omega
 have t2 : decide (200 < s.length) = true := by simpa using hs
 have HS := Lib.hid hs
 clear hs hx
 go_enter_defers Tryz.func26, Tryz.ntmps26
 go_wp2
 refine ⟨_, read_results (W := (w.alloc (.cells #[.int .i64 0, .slice none 0 0] 24)).alloc (.cells #[.int .i64 3] 32)) (b := w.heap.size) (eb := w.heap.size + 1) (c0 := .int .i64 0) (c1 := .slice none 0 0) (v := .int .i64 3) rfl rfl (by go_simp) (by go_simp) (by go_simp), _, 3, rfl, ((Ext.refl w).alloc _).alloc _, fun _ => ⟨rfl, rfl⟩, fun h => (by have := HS.out; omega), fun h => (by have := HS.out; omega)⟩
set_option maxRecDepth 100000 in
set_option maxHeartbeats 8000000 in
theorem read_none (s : List UInt8) (w : World) (hs : s.length ≤ 200) (hno : ¬ ∃ b, TextOf s b) (hrd : ∀ w1, Ext w w1 → Calls Tryz.prog 64 #[strV s] w1 (StrangeP w1)) : Calls Tryz.prog 26 #[strV s] w (ReadRes s w) := by
 have hmf : ∀ (fn : Fn) (first cap : Array Value) (w : World), (Instr.makeFunc fn first cap).run Tryz.prog w = .ok (.func fn first cap) w := fun _ _ _ _ => rfl
 obtain ⟨hb, hc, hf, hx⟩ := start_boxes w
 have HX0 := Lib.hid hx
 have HB := Lib.hid (And.intro hb (And.intro hc hf))
 have HRD := Lib.hid hrd
 have t1 : decide ((200 : Int) < (s.length : Int)) = false := by simp; omega
 have t2 : decide (200 < s.length) = false := by simp; omega
 have HN := Lib.hid (And.intro hs hno)
 clear hb hc hf hs hx hno hrd
 go_enter_defers Tryz.func26, Tryz.ntmps26
 go_wp2_with (go_at_call 64; refine (HRD.out _ HX0.out).mono ?_; rintro e w3 ⟨why, rfl, hx3⟩)
 obtain ⟨hb, hc, hf⟩ := HB.out
 have hb3 := hb.ext hx3
 have hc3 := hx3.cell hc
 have hf3 := (hx3.frozen (lt_of_cell hc)).trans hf
 refine leaves_cons (f := 63) (args := #[.pointer (some ⟨w.heap.size, 0, none⟩), .pointer (some ⟨w.heap.size + 1, 0, none⟩)]) (by simp) (by simp [go_sem]) ?_
 refine (readD_strange w.heap.size (w.heap.size + 1) why _ _ _ w3 hb3 hc3 hf3 (by omega)).mono ?_
 rintro e u' w'' ⟨rfl, rfl, rfl⟩
 have hxa : Ext w3 (w3.alloc (.cells #[.string why] 127)) := (Ext.refl w3).alloc _
 obtain ⟨k0, k1, k2, k3⟩ := (hb3.ext hxa).set (.int .i64 0) (.slice none 0 0)
 have hcA := hxa.cell hc3
 have hxA := (((HX0.out.trans hx3).trans hxa).setCell (p := ⟨w.heap.size, 0, none⟩) (Nat.le_refl _) (.int .i64 0)).setCell (p := ⟨w.heap.size, 1, none⟩) (Nat.le_refl _) (.slice none 0 0)
 have hne : w.heap.size ≠ w.heap.size + 1 := by omega
 have hcB : (((w3.alloc (.cells #[.string why] 127)).setCell ⟨w.heap.size, 0, none⟩ (.int .i64 0)).setCell ⟨w.heap.size, 1, none⟩ (.slice none 0 0)).cell? ⟨w.heap.size + 1, 0, none⟩ = some (.int .i64 0) := ((Touch.setCell (M := (· = w.heap.size)) (a := ⟨w.heap.size, 0, none⟩) _ rfl).trans (Touch.setCell (a := ⟨w.heap.size, 1, none⟩) _ rfl)).cell hcA (by simp)
 unfold doneW
 generalize ((w3.alloc (.cells #[.string why] 127)).setCell ⟨w.heap.size, 0, none⟩ (.int .i64 0)).setCell ⟨w.heap.size, 1, none⟩ (.slice none 0 0) = W2 at *
 have hT : Touch (· = w.heap.size + 1) W2 (W2.setCell ⟨w.heap.size + 1, 0, none⟩ (.int .i64 4)) := Touch.setCell _ rfl
 have hcE : (W2.setCell ⟨w.heap.size + 1, 0, none⟩ (.int .i64 4)).cell? ⟨w.heap.size + 1, 0, none⟩ = some (.int .i64 4) := World.cell?_setCell_same _ _ _ hcB
 simp only [Leaves, settle, List.dropWhile]
 exact ⟨_, read_results rfl rfl (hT.cell k0 hne) (hT.cell k1 hne) hcE, _, 4, rfl, hxA.setCell (p := ⟨w.heap.size + 1, 0, none⟩) (by simp) _, fun h => (by have := HN.out.1; omega), fun _ _ => ⟨rfl, rfl⟩, fun _ b hb => absurd ⟨b, hb⟩ HN.out.2⟩
set_option maxRecDepth 100000 in
set_option maxHeartbeats 16000000 in
theorem read_good (s : List UInt8) (b : Book) (w : World) (hs : s.length ≤ 200) (hb : TextOf s b) (hir : isBookB b = true) (hrd : ∀ w1, Ext w w1 → Calls Tryz.prog 64 #[strV s] w1 fun e w' => ∃ rv, e = .returned (.agg #[.int .i64 b.years, rv]) ∧ RiversOff (· < w1.heap.size) w' rv b.rivers ∧ Ext w1 w') : Calls Tryz.prog 26 #[strV s] w (ReadRes s w) := by
 have hmf : ∀ (fn : Fn) (first cap : Array Value) (w : World), (Instr.makeFunc fn first cap).run Tryz.prog w = .ok (.func fn first cap) w := fun _ _ _ _ => rfl
 obtain ⟨hbx, hc, hf, hx⟩ := start_boxes w
 have HX0 := Lib.hid hx
 have HB := Lib.hid (And.intro hbx (And.intro hc hf))
 have HRD := Lib.hid hrd
 have t1 : decide ((200 : Int) < (s.length : Int)) = false := by simp; omega
 have t2 : decide (200 < s.length) = false := by simp; omega
 have HN := Lib.hid (And.intro hs hb)
 have HIR := Lib.hid (fun w1 v (h : BookAt w1 v b) => isBook_any v b w1 h)
 rw [hir] at HIR
 have HIB := Lib.hid hir
 clear hbx hc hf hs hx hb hrd hir
 go_enter_defers Tryz.func26, Tryz.ntmps26
 go_upto_region 5 with (go_at_call 64; refine (HRD.out _ HX0.out).mono ?_; rintro e w3 ⟨rv, rfl, hrv, hx3⟩; obtain ⟨ra, rc, rfl, _⟩ := hrv.at.open; obtain ⟨hb0, hc0, hf0⟩ := HB.out; obtain ⟨k0, k1, k2, k3⟩ := hb0.ext hx3; have HC3 := Lib.hid (And.intro (hx3.cell hc0) ((hx3.frozen (lt_of_cell hc0)).trans hf0)); have HRV := Lib.hid hrv; have HX3 := Lib.hid hx3; have HB3 := Lib.hid (hb0.ext hx3); clear hb0 hc0 hf0 hrv hx3)
 have hzs : w.heap.size < (startW w).heap.size := by simp; omega
 have hT4 : Touch (· = w.heap.size) w3 ((w3.setCell ⟨w.heap.size, 0, none⟩ (.int .i64 b.years)).setCell ⟨w.heap.size, 1, none⟩ (.slice ra b.rivers.length rc)) := (Touch.setCell (M := (· = w.heap.size)) (a := ⟨w.heap.size, 0, none⟩) _ rfl).trans (Touch.setCell (a := ⟨w.heap.size, 1, none⟩) _ rfl)
 have hb4 := HB3.out.set (.int .i64 b.years) (.slice ra b.rivers.length rc)
 have hr4 : RiversOff (fun i => i ≤ w.heap.size + 1) ((w3.setCell ⟨w.heap.size, 0, none⟩ (.int .i64 b.years)).setCell ⟨w.heap.size, 1, none⟩ (.slice ra b.rivers.length rc)) (.slice ra b.rivers.length rc) b.rivers := (HRV.out.less (N := fun i => i ≤ w.heap.size + 1) (fun i hi => by simp; omega)).touch (hT4.mono (fun i hi => by omega))
 have hc4 := hT4.cell HC3.out.1 (by simp)
 have hf4 := (hT4.frozen HC3.out.1 (by simp)).trans HC3.out.2
 have hx4 := ((HX0.out.trans HX3.out).setCell (p := ⟨w.heap.size, 0, none⟩) (Nat.le_refl _) (.int .i64 b.years)).setCell (p := ⟨w.heap.size, 1, none⟩) (Nat.le_refl _) (.slice ra b.rivers.length rc)
 clear k0 k1 k2 k3 hzs hT4
 generalize (w3.setCell ⟨w.heap.size, 0, none⟩ (.int .i64 b.years)).setCell ⟨w.heap.size, 1, none⟩ (.slice ra b.rivers.length rc) = W4 at *
 have HR4 := Lib.hid hr4
 have HB4 := Lib.hid hb4
 have HC4 := Lib.hid (And.intro hc4 hf4)
 have HX4 := Lib.hid hx4
 obtain ⟨l0, l1, l2, l3⟩ := hb4
 have HBA : Hid (BookAt W4 (.agg #[.int .i64 b.years, .slice ra b.rivers.length rc]) b) := ⟨_, rfl, hr4.at⟩
 clear hr4 hc4 hf4 hx4
 go_wp2_with (go_at_call 53; refine (HIR.out _ _ HBA.out).mono ?_; rintro e w5 ⟨rfl, hx5⟩; clear l0 l1 l2 l3; have hb5 := HB4.out.ext hx5; have HB5 := Lib.hid hb5; obtain ⟨l0, l1, l2, l3⟩ := hb5; have hc5 := hx5.cell HC4.out.1; have hf5 := (hx5.frozen (lt_of_cell HC4.out.1)).trans HC4.out.2; have HX5 := Lib.hid hx5; clear hx5)

 have hT6 : Touch (· = w.heap.size) w5 ((w5.setCell ⟨w.heap.size, 0, none⟩ (.int .i64 b.years)).setCell ⟨w.heap.size, 1, none⟩ (.slice ra b.rivers.length rc)) := (Touch.setCell (M := (· = w.heap.size)) (a := ⟨w.heap.size, 0, none⟩) _ rfl).trans (Touch.setCell (a := ⟨w.heap.size, 1, none⟩) _ rfl)
 obtain ⟨k0, k1, k2, k3⟩ := HB5.out.set (.int .i64 b.years) (.slice ra b.rivers.length rc)
 have hc6 := hT6.cell hc5 (by simp)
 have hx6 := ((HX4.out.trans HX5.out).setCell (p := ⟨w.heap.size, 0, none⟩) (Nat.le_refl _) (.int .i64 b.years)).setCell (p := ⟨w.heap.size, 1, none⟩) (Nat.le_refl _) (.slice ra b.rivers.length rc)
 generalize (w5.setCell ⟨w.heap.size, 0, none⟩ (.int .i64 b.years)).setCell ⟨w.heap.size, 1, none⟩ (.slice ra b.rivers.length rc) = W6 at *
 have hT7 : Touch (· = w.heap.size + 1) W6 (W6.setCell ⟨w.heap.size + 1, 0, none⟩ (.int .i64 0)) := Touch.setCell _ rfl
 have hne : w.heap.size ≠ w.heap.size + 1 := by omega
 refine leaves_cons (f := 63) (args := #[.pointer (some ⟨w.heap.size, 0, none⟩), .pointer (some ⟨w.heap.size + 1, 0, none⟩)]) (by simp) (by simp [go_sem]) ?_
 refine (readD_idle _ _ _).mono ?_
 rintro e u' w'' ⟨rfl, rfl, rfl⟩
 have hcE : (W6.setCell ⟨w.heap.size + 1, 0, none⟩ (.int .i64 0)).cell? ⟨w.heap.size + 1, 0, none⟩ = some (.int .i64 0) := World.cell?_setCell_same _ _ _ hc6
 simp only [Leaves, settle]
 refine ⟨_, read_results rfl rfl (hT7.cell k0 hne) (hT7.cell k1 hne) hcE, _, 0, rfl, hx6.setCell (p := ⟨w.heap.size + 1, 0, none⟩) (by simp) _, fun h => (by have := HN.out.1; omega), fun _ h => absurd ⟨b, HN.out.2⟩ h, fun _ q hq => ?_⟩
 have e := textOf_one HN.out.2 hq
 subst e
 exact ⟨fun _ => ⟨rfl, ⟨_, rfl, ((((HR4.out.ext HX5.out).touch (hT6.mono (fun i hi => by omega))).touch (hT7.mono (fun i hi => by omega)))).at⟩⟩, fun h => (by have := HIB.out; rw [h] at this; cases this)⟩
set_option maxRecDepth 100000 in
set_option maxHeartbeats 16000000 in
theorem read_bad (s : List UInt8) (b : Book) (w : World) (hs : s.length ≤ 200) (hb : TextOf s b) (hir : isBookB b = false) (hrd : ∀ w1, Ext w w1 → Calls Tryz.prog 64 #[strV s] w1 fun e w' => ∃ rv, e = .returned (.agg #[.int .i64 b.years, rv]) ∧ RiversOff (· < w1.heap.size) w' rv b.rivers ∧ Ext w1 w') : Calls Tryz.prog 26 #[strV s] w (ReadRes s w) := by
 have hmf : ∀ (fn : Fn) (first cap : Array Value) (w : World), (Instr.makeFunc fn first cap).run Tryz.prog w = .ok (.func fn first cap) w := fun _ _ _ _ => rfl
 obtain ⟨hbx, hc, hf, hx⟩ := start_boxes w
 have HX0 := Lib.hid hx
 have HB := Lib.hid (And.intro hbx (And.intro hc hf))
 have HRD := Lib.hid hrd
 have t1 : decide ((200 : Int) < (s.length : Int)) = false := by simp; omega
 have t2 : decide (200 < s.length) = false := by simp; omega
 have HN := Lib.hid (And.intro hs hb)
 have HIR := Lib.hid (fun w1 v (h : BookAt w1 v b) => isBook_any v b w1 h)
 rw [hir] at HIR
 have HIB := Lib.hid hir
 clear hbx hc hf hs hx hb hrd hir
 go_enter_defers Tryz.func26, Tryz.ntmps26
 go_upto_region 5 with (go_at_call 64; refine (HRD.out _ HX0.out).mono ?_; rintro e w3 ⟨rv, rfl, hrv, hx3⟩; obtain ⟨ra, rc, rfl, _⟩ := hrv.at.open; obtain ⟨hb0, hc0, hf0⟩ := HB.out; obtain ⟨k0, k1, k2, k3⟩ := hb0.ext hx3; have HC3 := Lib.hid (And.intro (hx3.cell hc0) ((hx3.frozen (lt_of_cell hc0)).trans hf0)); have HRV := Lib.hid hrv; have HX3 := Lib.hid hx3; have HB3 := Lib.hid (hb0.ext hx3); clear hb0 hc0 hf0 hrv hx3)
 have hzs : w.heap.size < (startW w).heap.size := by simp; omega
 have hT4 : Touch (· = w.heap.size) w3 ((w3.setCell ⟨w.heap.size, 0, none⟩ (.int .i64 b.years)).setCell ⟨w.heap.size, 1, none⟩ (.slice ra b.rivers.length rc)) := (Touch.setCell (M := (· = w.heap.size)) (a := ⟨w.heap.size, 0, none⟩) _ rfl).trans (Touch.setCell (a := ⟨w.heap.size, 1, none⟩) _ rfl)
 have hb4 := HB3.out.set (.int .i64 b.years) (.slice ra b.rivers.length rc)
 have hr4 : RiversOff (fun i => i ≤ w.heap.size + 1) ((w3.setCell ⟨w.heap.size, 0, none⟩ (.int .i64 b.years)).setCell ⟨w.heap.size, 1, none⟩ (.slice ra b.rivers.length rc)) (.slice ra b.rivers.length rc) b.rivers := (HRV.out.less (N := fun i => i ≤ w.heap.size + 1) (fun i hi => by simp; omega)).touch (hT4.mono (fun i hi => by omega))
 have hc4 := hT4.cell HC3.out.1 (by simp)
 have hf4 := (hT4.frozen HC3.out.1 (by simp)).trans HC3.out.2
 have hx4 := ((HX0.out.trans HX3.out).setCell (p := ⟨w.heap.size, 0, none⟩) (Nat.le_refl _) (.int .i64 b.years)).setCell (p := ⟨w.heap.size, 1, none⟩) (Nat.le_refl _) (.slice ra b.rivers.length rc)
 clear k0 k1 k2 k3 hzs hT4
 generalize (w3.setCell ⟨w.heap.size, 0, none⟩ (.int .i64 b.years)).setCell ⟨w.heap.size, 1, none⟩ (.slice ra b.rivers.length rc) = W4 at *
 have HR4 := Lib.hid hr4
 have HB4 := Lib.hid hb4
 have HC4 := Lib.hid (And.intro hc4 hf4)
 have HX4 := Lib.hid hx4
 obtain ⟨l0, l1, l2, l3⟩ := hb4
 have HBA : Hid (BookAt W4 (.agg #[.int .i64 b.years, .slice ra b.rivers.length rc]) b) := ⟨_, rfl, hr4.at⟩
 clear hr4 hc4 hf4 hx4
 go_wp2_with (go_at_call 53; refine (HIR.out _ _ HBA.out).mono ?_; rintro e w5 ⟨rfl, hx5⟩; clear l0 l1 l2 l3; have hb5 := HB4.out.ext hx5; have HB5 := Lib.hid hb5; obtain ⟨l0, l1, l2, l3⟩ := hb5; have hc5 := hx5.cell HC4.out.1; have hf5 := (hx5.frozen (lt_of_cell HC4.out.1)).trans HC4.out.2; have HX5 := Lib.hid hx5; clear hx5)

 have hT6 : Touch (· = w.heap.size) w5 ((w5.setCell ⟨w.heap.size, 0, none⟩ (.int .i64 0)).setCell ⟨w.heap.size, 1, none⟩ (.slice none 0 0)) := (Touch.setCell (M := (· = w.heap.size)) (a := ⟨w.heap.size, 0, none⟩) _ rfl).trans (Touch.setCell (a := ⟨w.heap.size, 1, none⟩) _ rfl)
 obtain ⟨k0, k1, k2, k3⟩ := HB5.out.set (.int .i64 0) (.slice none 0 0)
 have hc6 := hT6.cell hc5 (by simp)
 have hx6 := ((HX4.out.trans HX5.out).setCell (p := ⟨w.heap.size, 0, none⟩) (Nat.le_refl _) (.int .i64 0)).setCell (p := ⟨w.heap.size, 1, none⟩) (Nat.le_refl _) (.slice none 0 0)
 generalize (w5.setCell ⟨w.heap.size, 0, none⟩ (.int .i64 0)).setCell ⟨w.heap.size, 1, none⟩ (.slice none 0 0) = W6 at *
 have hT7 : Touch (· = w.heap.size + 1) W6 (W6.setCell ⟨w.heap.size + 1, 0, none⟩ (.int .i64 2)) := Touch.setCell _ rfl
 have hne : w.heap.size ≠ w.heap.size + 1 := by omega
 refine leaves_cons (f := 63) (args := #[.pointer (some ⟨w.heap.size, 0, none⟩), .pointer (some ⟨w.heap.size + 1, 0, none⟩)]) (by simp) (by simp [go_sem]) ?_
 refine (readD_idle _ _ _).mono ?_
 rintro e u' w'' ⟨rfl, rfl, rfl⟩
 have hcE : (W6.setCell ⟨w.heap.size + 1, 0, none⟩ (.int .i64 2)).cell? ⟨w.heap.size + 1, 0, none⟩ = some (.int .i64 2) := World.cell?_setCell_same _ _ _ hc6
 simp only [Leaves, settle]
 refine ⟨_, read_results rfl rfl (hT7.cell k0 hne) (hT7.cell k1 hne) hcE, _, 2, rfl, hx6.setCell (p := ⟨w.heap.size + 1, 0, none⟩) (by simp) _, fun h => (by have := HN.out.1; omega), fun _ h => absurd ⟨b, HN.out.2⟩ h, fun _ q hq => ?_⟩
 have e := textOf_one HN.out.2 hq
 subst e
 exact ⟨fun h => (by have := HIB.out; rw [h] at this; cases this), fun _ => ⟨rfl, rfl⟩⟩
theorem Read_any (s : List UInt8) (w : World) (ht : TabOk w) (hm : MaxOk w) (hs : s.length ≤ 1000) : Calls Tryz.prog 26 #[strV s] w (ReadRes s w) := by
 by_cases h2 : s.length ≤ 200
 ·have hrd := fun w1 (hx : Ext w w1) => read_any s w1 (ht.ext hx) (hm.ext hx) (by omega)
  by_cases hb : ∃ b, TextOf s b
  ·obtain ⟨b, hb⟩ := hb
   have hrd2 : ∀ w1, Ext w w1 → Calls Tryz.prog 64 #[strV s] w1 fun e w' => ∃ rv, e = .returned (.agg #[.int .i64 b.years, rv]) ∧ RiversOff (· < w1.heap.size) w' rv b.rivers ∧ Ext w1 w' := fun w1 hx => (hrd w1 hx).mono fun e w' hp => by
    rcases hp with ⟨rv, h1, _, h3, h4⟩ | ⟨h1, _⟩
    ·rw [book_text hb] at h1 h3; exact ⟨rv, h1, h3, h4⟩
    ·exact absurd ⟨b, hb⟩ h1
   cases hir : isBookB b with
   | true => exact read_good s b w h2 hb hir hrd2
   | false => exact read_bad s b w h2 hb hir hrd2
  ·exact read_none s w h2 hb (fun w1 hx => (hrd w1 hx).mono fun e w' hp => by
    rcases hp with ⟨_, _, h2, _⟩ | ⟨_, h⟩
    ·exact absurd ⟨_, h2⟩ hb
    ·exact h)
 ·exact read_long s w (by omega) hs
end Go.Proofs.YtdmdabhdcpjkiaaGreatDoor
