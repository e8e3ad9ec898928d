/- CardEnds: the early ways, and the loop that lays the spans of what the houses can have counted. -/
import Derived.Test.YtbeophjdiddomaaGreatDoorEndsa
import Derived.Test.YtbeophjdiddomaaGreatDoorReadl
namespace Go.Proofs.YtbeophjdiddomaaGreatDoor
open Go.RowKit

/-- What an answer's error is, where a round agrees or not. -/
def AnsE (r : Round) (er : Int) : Prop := (agreeB r (-1) = true → er = 0) ∧ (agreeB r (-1) = false → er = 7)
theorem agreeE_any (v : Value) (r : Round) (w : World) (hr : RoundAt w v r) (hb : isRoundB r = true) : Calls Tryz.prog 11 #[v] w fun e w' => e = .returned (.tuple #[.bool (agreeB r (-1)), .int .i64 0]) ∧ Ext w w' := by
  refine (agree_any v r w hr).mono fun e w' h => ?_
  obtain ⟨b, err, rfl, hx, h⟩ := h
  rw [if_pos hb] at h
  obtain ⟨rfl, h⟩ := h
  refine ⟨?_, hx⟩
  have : b = agreeB r (-1) := by
    have h2 := agreeB_iff (roundB_of hb) (free := -1)
    cases b <;> cases hq : agreeB r (-1) <;> simp_all
  rw [this]
theorem knownE_any (v : Value) (r : Round) (w : World) (hr : RoundAt w v r) (hb : isRoundB r = true) : Calls Tryz.prog 12 #[v] w fun e w' => ∃ (ak : Option Addr) (nk ck : Nat) (er : Int), e = .returned (.tuple #[.slice ak nk ck, .int .i64 er]) ∧ Ext w w' ∧ AnsE r er ∧ (agreeB r (-1) = true → w'.ownsRow w.heap.size 23 2 (.slice ak nk ck) r.houses.length ((knownL r).flatMap spanCells)) := by
  cases ha : agreeB r (-1) with
  | true =>
    refine (known_new v r w hr hb ha).mono fun e w' h => ?_
    obtain ⟨v1, rfl, hx, hown⟩ := h
    obtain ⟨a, c, rfl, _⟩ := RowAt.of_owns hown
    exact ⟨_, _, _, _, rfl, hx, ⟨fun _ => rfl, fun h => by rw [ha] at h; cases h⟩, fun _ => hown⟩
  | false =>
    refine (known_any v r w hr).mono fun e w' h => ?_
    obtain ⟨v1, err, rfl, hx, h⟩ := h
    rw [if_pos hb, if_neg (by rw [ha]; decide)] at h
    obtain ⟨rfl, rfl⟩ := h
    exact ⟨_, _, _, _, rfl, hx, ⟨(fun h => by rw [ha] at h; cases h), fun _ => rfl⟩, fun h => by cases h⟩
theorem spanE_of {r : Round} {p : Int × Int} {w w' : World} {e : Ending} (hb : isRoundB r = true) (h : SpanRes r p w e w') : ∃ q1 q2 er : Int, e = .returned (.tuple #[.agg #[.int .i64 q1, .int .i64 q2], .int .i64 er]) ∧ Ext w w' ∧ AnsE r er ∧ (agreeB r (-1) = true → (q1, q2) = p) := by
  obtain ⟨⟨q1, q2⟩, err, rfl, hx, h⟩ := h
  rw [if_pos hb] at h
  cases ha : agreeB r (-1) with
  | true =>
    rw [if_pos ha] at h
    obtain ⟨rfl, h⟩ := h
    exact ⟨q1, q2, _, rfl, hx, ⟨fun _ => rfl, fun h => by rw [ha] at h; cases h⟩, fun _ => h⟩
  | false =>
    rw [if_neg (by rw [ha]; decide)] at h
    obtain ⟨rfl, h⟩ := h
    exact ⟨q1, q2, _, rfl, hx, ⟨(fun h => by rw [ha] at h; cases h), fun _ => rfl⟩, fun h => by cases h⟩
set_option maxRecDepth 1000000 in
set_option maxHeartbeats 64000000 in
theorem endsL_e0 (v : Value) (r : Round) (w : World) (hr : RoundAt w v r) (ht : TabOk w) (hs : slimB r = false) : Calls Tryz.prog 3 #[v] w (TrueP w) := by
  obtain ⟨hv, rfl, hh⟩ := hr
  have hr' : RoundAt w (.agg (r.cells hv).toArray) r := ⟨hv, rfl, hh⟩
  obtain ⟨a, c, rfl, h1, h2, _⟩ := hh.open
  have hx0 : Ext w (w.alloc (boxD r a c)) := (Ext.refl w).alloc _
  have HX0 := Lib.hid hx0
  have HSL := Lib.hid (fun w1 (hx : Ext w w1) => slim_any _ r w1 (hr'.ext hx))
  have HRR := Lib.hid (fun w1 (hx : Ext w w1) => rround_any _ r w1 (hr'.ext hx))
  have HL := Lib.hid (fun w1 (hx : Ext w w1) => lknown_any w1 (ht.ext hx))
  have HB := Lib.hid (fun W (h : Ext (w.alloc (boxD r a c)) W) => round_cells ((h.block (by simp)).trans (World.alloc_heap_new w (boxD r a c))))
  rw [hs] at HSL
  have hmix : Tryz.prog.follows .mixedOrders = true := by kernel_rfl
  unfold Round.cells at *
  clear hr' hh hx0 ht
  go_enter Tryz.func3, Tryz.ntmps3
  obtain ⟨z0, z1, z2, z3, z4, z5, z6, z7⟩ := HB.out _ (Ext.refl _)
  go_wp2_with (first
    | (go_at_call 7; refine (HSL.out _ HX0.out).mono ?_; rintro e w1 ⟨rfl, hx1⟩; have hy1 := Ext.trans (Ext.refl (w.alloc (boxD r a c))) hx1; clear z0 z1 z2 z3 z4 z5 z6 z7; obtain ⟨z0, z1, z2, z3, z4, z5, z6, z7⟩ := HB.out _ hy1)
    | (go_at_call 9; refine (HL.out _ (HX0.out.trans hy1)).mono ?_; rintro e wk ⟨rfl, hxk⟩))
  go_ret
  exact ⟨rfl, (HX0.out.trans hy1).trans hxk⟩
set_option maxRecDepth 1000000 in
set_option maxHeartbeats 64000000 in
theorem endsL_e1 (v : Value) (r : Round) (w : World) (hr : RoundAt w v r) (ht : TabOk w) (hs : slimB r = true) (hb : isRoundB r = false) : Calls Tryz.prog 3 #[v] w (TrueP w) := by
  obtain ⟨hv, rfl, hh⟩ := hr
  have hr' : RoundAt w (.agg (r.cells hv).toArray) r := ⟨hv, rfl, hh⟩
  obtain ⟨a, c, rfl, h1, h2, _⟩ := hh.open
  have hx0 : Ext w (w.alloc (boxD r a c)) := (Ext.refl w).alloc _
  have HX0 := Lib.hid hx0
  have HSL := Lib.hid (fun w1 (hx : Ext w w1) => slim_any _ r w1 (hr'.ext hx))
  have HRR := Lib.hid (fun w1 (hx : Ext w w1) => rround_any _ r w1 (hr'.ext hx))
  have HL := Lib.hid (fun w1 (hx : Ext w w1) => lknown_any w1 (ht.ext hx))
  have HB := Lib.hid (fun W (h : Ext (w.alloc (boxD r a c)) W) => round_cells ((h.block (by simp)).trans (World.alloc_heap_new w (boxD r a c))))
  rw [hs] at HSL
  rw [hb] at HRR
  have hmix : Tryz.prog.follows .mixedOrders = true := by kernel_rfl
  unfold Round.cells at *
  clear hr' hh hx0 ht
  go_enter Tryz.func3, Tryz.ntmps3
  obtain ⟨z0, z1, z2, z3, z4, z5, z6, z7⟩ := HB.out _ (Ext.refl _)
  go_wp2_with (first
    | (go_at_call 7; refine (HSL.out _ HX0.out).mono ?_; rintro e w1 ⟨rfl, hx1⟩; have hy1 := Ext.trans (Ext.refl (w.alloc (boxD r a c))) hx1; clear z0 z1 z2 z3 z4 z5 z6 z7; obtain ⟨z0, z1, z2, z3, z4, z5, z6, z7⟩ := HB.out _ hy1)
    | (go_at_call 8; refine (HRR.out _ (HX0.out.trans hy1)).mono ?_; rintro e w2 ⟨rfl, hx2⟩; have hy2 := Ext.trans hy1 hx2; clear z0 z1 z2 z3 z4 z5 z6 z7; obtain ⟨z0, z1, z2, z3, z4, z5, z6, z7⟩ := HB.out _ hy2)
    | (go_at_call 9; refine (HL.out _ (HX0.out.trans hy2)).mono ?_; rintro e wk ⟨rfl, hxk⟩))
  go_ret
  exact ⟨rfl, (HX0.out.trans hy2).trans hxk⟩
end Go.Proofs.YtbeophjdiddomaaGreatDoor
