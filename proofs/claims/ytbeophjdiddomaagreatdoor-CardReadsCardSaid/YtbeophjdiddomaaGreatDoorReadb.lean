/- card.Read: the round of a text, or the errors. -/
import Derived.Test.YtbeophjdiddomaaGreatDoorReadc
import Derived.Test.YtbeophjdiddomaaGreatDoorWeigh
namespace Go.Proofs.YtbeophjdiddomaaGreatDoor
open Go.RowKit

/-- What Read answers. -/
def ReadRes (s : List UInt8) (w : World) (e : Ending) (w' : World) : Prop := ∃ (v : Value) (err : Int), e = .returned (.tuple #[v, .int .i64 err]) ∧ Ext w w' ∧ (400 < s.length → v = zR ∧ err = 3) ∧ (s.length ≤ 400 → (¬ ∃ r, TextOf s r) → v = zR ∧ err = 4) ∧
  (s.length ≤ 400 → ∀ r, TextOf s r → (isRoundB r = true → err = 0 ∧ RoundAt w' v r) ∧ (isRoundB r = false → err = 2 ∧ v = zR))
theorem read_results {tmps : Array Value} {W : World} {b eb : Nat} {c0 c1 c2 c3 c4 c5 c6 c7 v : Value} (hp : tmps.getD 2 undef = .pointer (some ⟨b, 0, none⟩)) (hq : tmps.getD 3 undef = .pointer (some ⟨eb, 0, none⟩)) (hb : W.heap[b]? = some (.cells #[c0, c1, c2, c3, c4, c5, c6, c7] 26 (0, 0))) (hc : W.cell? ⟨eb, 0, none⟩ = some v) :
    (results Tryz.f19 tmps).run Tryz.prog W = .ok (.tuple #[.agg #[c0, c1, c2, c3, c4, c5, c6, c7], v]) W := by
  have hp' : tmps[2]?.getD undef = .pointer (some ⟨b, 0, none⟩) := by simpa using hp
  have hq' : tmps[3]?.getD undef = .pointer (some ⟨eb, 0, none⟩) := by simpa using hq
  have f0 : W.cell? ⟨b, 0, none⟩ = some c0 := by simp [World.cell?, hb]
  have f1 : W.cell? ⟨b, 1, none⟩ = some c1 := by simp [World.cell?, hb]
  have f2 : W.cell? ⟨b, 2, none⟩ = some c2 := by simp [World.cell?, hb]
  have f3 : W.cell? ⟨b, 3, none⟩ = some c3 := by simp [World.cell?, hb]
  have f4 : W.cell? ⟨b, 4, none⟩ = some c4 := by simp [World.cell?, hb]
  have f5 : W.cell? ⟨b, 5, none⟩ = some c5 := by simp [World.cell?, hb]
  have f6 : W.cell? ⟨b, 6, none⟩ = some c6 := by simp [World.cell?, hb]
  have f7 : W.cell? ⟨b, 7, none⟩ = some c7 := by simp [World.cell?, hb]
  simp [results, Tryz.results19, hp', hq', asAddr, go_sem, f0, f1, f2, f3, f4, f5, f6, f7, hc]
theorem two_boxes (w : World) : ((w.alloc (.cells #[.int .i64 0, .int .i64 0, .int .i64 0, .int .i64 0, .int .i64 0, .slice none 0 0, .int .i64 0, .int .i64 0] 26)).alloc (.cells #[.int .i64 0] 34)).heap[w.heap.size]? = some (.cells #[.int .i64 0, .int .i64 0, .int .i64 0, .int .i64 0, .int .i64 0, .slice none 0 0, .int .i64 0, .int .i64 0] 26 (0, 0)) ∧ ((w.alloc (.cells #[.int .i64 0, .int .i64 0, .int .i64 0, .int .i64 0, .int .i64 0, .slice none 0 0, .int .i64 0, .int .i64 0] 26)).alloc (.cells #[.int .i64 0] 34)).cell? ⟨w.heap.size + 1, 0, none⟩ = some (.int .i64 0) ∧
    ((w.alloc (.cells #[.int .i64 0, .int .i64 0, .int .i64 0, .int .i64 0, .int .i64 0, .slice none 0 0, .int .i64 0, .int .i64 0] 26)).alloc (.cells #[.int .i64 0] 34)).frozen? ⟨w.heap.size + 1, 0, none⟩ = false := by
  have h0 := World.alloc_heap_new w (.cells #[.int .i64 0, .int .i64 0, .int .i64 0, .int .i64 0, .int .i64 0, .slice none 0 0, .int .i64 0, .int .i64 0] 26)
  have h1 := World.alloc_heap_new (w.alloc (.cells #[.int .i64 0, .int .i64 0, .int .i64 0, .int .i64 0, .int .i64 0, .slice none 0 0, .int .i64 0, .int .i64 0] 26)) (.cells #[.int .i64 0] 34)
  rw [World.size_alloc] at h1
  have h2 := (((Ext.refl (w.alloc (.cells #[.int .i64 0, .int .i64 0, .int .i64 0, .int .i64 0, .int .i64 0, .slice none 0 0, .int .i64 0, .int .i64 0] 26))).alloc (.cells #[.int .i64 0] 34)).block (b := w.heap.size) (by simp)).trans h0
  generalize (w.alloc (.cells #[.int .i64 0, .int .i64 0, .int .i64 0, .int .i64 0, .int .i64 0, .slice none 0 0, .int .i64 0, .int .i64 0] 26)).alloc (.cells #[.int .i64 0] 34) = W at *
  exact ⟨h2, by simp [World.cell?, h1], by simp [World.frozen?, h1]⟩
set_option maxRecDepth 100000 in
set_option maxHeartbeats 8000000 in
theorem read_long (s : List UInt8) (w : World) (hs : 400 < s.length) (hs2 : s.length ≤ 1000) : Calls Tryz.prog 19 #[strV s] w (ReadRes s w) := by
  have hmf : ∀ (fn : Fn) (first cap : Array Value) (w : World), (Instr.makeFunc fn first cap).run Tryz.prog w = .ok (.func fn first cap) w := fun _ _ _ _ => rfl
  have hx0 : Ext w ((w.alloc (.cells #[.int .i64 0, .int .i64 0, .int .i64 0, .int .i64 0, .int .i64 0, .slice none 0 0, .int .i64 0, .int .i64 0] 26)).alloc (.cells #[.int .i64 0] 34)) := ((Ext.refl w).alloc _).alloc _
  obtain ⟨hb, hc, hf⟩ := two_boxes w
  have hst := box_set8 hb (.int .i64 0) (.int .i64 0) (.int .i64 0) (.int .i64 0) (.int .i64 0) (.slice none 0 0) (.int .i64 0) (.int .i64 0)
  have HB := Lib.hid hb
  have HC : Hid ((((w.alloc (.cells #[.int .i64 0, .int .i64 0, .int .i64 0, .int .i64 0, .int .i64 0, .slice none 0 0, .int .i64 0, .int .i64 0] 26)).alloc (.cells #[.int .i64 0] 34)).setCells w.heap.size 0 [.int .i64 0, .int .i64 0, .int .i64 0, .int .i64 0, .int .i64 0, .slice none 0 0, .int .i64 0, .int .i64 0]).cell? ⟨w.heap.size + 1, 0, none⟩ = some (.int .i64 0) ∧ (((w.alloc (.cells #[.int .i64 0, .int .i64 0, .int .i64 0, .int .i64 0, .int .i64 0, .slice none 0 0, .int .i64 0, .int .i64 0] 26)).alloc (.cells #[.int .i64 0] 34)).setCells w.heap.size 0 [.int .i64 0, .int .i64 0, .int .i64 0, .int .i64 0, .int .i64 0, .slice none 0 0, .int .i64 0, .int .i64 0]).frozen? ⟨w.heap.size + 1, 0, none⟩ = false) := by
    refine ⟨hst.2.2.cell hc (by simp), ?_⟩
    rw [World.frozen?_setCells]; exact hf
  have HD := Lib.hid (And.intro hst.1 (hst.2.1 w hx0 (Nat.le_refl _)))
  have t1 : decide ((400 : Int) < (s.length : Int)) = true := by simp; omega
  have t2 : decide (400 < s.length) = true := by simpa using hs
  have HS := Lib.hid hs
  clear hst hb hc hf hs hx0
  go_enter_defers Tryz.func19, Tryz.ntmps19
  go_upto_region 2 with fail
  refine wp_region_list ?_
  refine wpList_plain rfl (fun K hK => ?_)
  go_simp
  refine hK _ _ ?_
  clear hK K
  refine wpList_store_mid rfl _ _ _ rfl w.heap.size 0 #[.int .i64 0, .int .i64 0, .int .i64 0, .int .i64 0, .int .i64 0, .slice none 0 0, .int .i64 0, .int .i64 0] rfl rfl (box_there8 HB.out) (by kernel_rfl) (by simp [Value.oneCell']) ?_
  change wpList _ _ _ _ _ (((w.alloc (.cells #[.int .i64 0, .int .i64 0, .int .i64 0, .int .i64 0, .int .i64 0, .slice none 0 0, .int .i64 0, .int .i64 0] 26)).alloc (.cells #[.int .i64 0] 34)).setCells w.heap.size 0 [.int .i64 0, .int .i64 0, .int .i64 0, .int .i64 0, .int .i64 0, .slice none 0 0, .int .i64 0, .int .i64 0])
  obtain ⟨he, hf⟩ := HC.out
  have hd := HD.out
  generalize ((w.alloc (.cells #[.int .i64 0, .int .i64 0, .int .i64 0, .int .i64 0, .int .i64 0, .slice none 0 0, .int .i64 0, .int .i64 0] 26)).alloc (.cells #[.int .i64 0] 34)).setCells w.heap.size 0 [.int .i64 0, .int .i64 0, .int .i64 0, .int .i64 0, .int .i64 0, .slice none 0 0, .int .i64 0, .int .i64 0] = W2 at *
  have HD2 := Lib.hid hd
  clear hd HC HD HB
  go_wp2
  have hne : w.heap.size + 1 ≠ w.heap.size := by omega
  have hbE : (W2.setCell ⟨w.heap.size + 1, 0, none⟩ (.int .i64 3)).heap[w.heap.size]? = some (.cells #[.int .i64 0, .int .i64 0, .int .i64 0, .int .i64 0, .int .i64 0, .slice none 0 0, .int .i64 0, .int .i64 0] 26 (0, 0)) := ((Touch.setCell (M := (· = w.heap.size + 1)) (A := W2) (a := ⟨w.heap.size + 1, 0, none⟩) (.int .i64 3) rfl).keep w.heap.size _ HD2.out.1 (by simp))
  have hcE : (W2.setCell ⟨w.heap.size + 1, 0, none⟩ (.int .i64 3)).cell? ⟨w.heap.size + 1, 0, none⟩ = some (.int .i64 3) := World.cell?_setCell_same _ _ _ he
  exact ⟨_, read_results rfl rfl hbE hcE, _, 3, rfl, HD2.out.2.setCell (p := ⟨w.heap.size + 1, 0, none⟩) (by simp) _, fun _ => ⟨rfl, rfl⟩, fun h => (by have := HS.out; omega), fun h => (by have := HS.out; omega)⟩
set_option maxRecDepth 100000 in
set_option maxHeartbeats 8000000 in
theorem read_none (s : List UInt8) (w : World) (hs : s.length ≤ 400) (hno : ¬ ∃ r, TextOf s r) (hrd : ∀ w1, Ext w w1 → Calls Tryz.prog 52 #[strV s] w1 (StrangeP w1)) : Calls Tryz.prog 19 #[strV s] w (ReadRes s w) := by
  have hmf : ∀ (fn : Fn) (first cap : Array Value) (w : World), (Instr.makeFunc fn first cap).run Tryz.prog w = .ok (.func fn first cap) w := fun _ _ _ _ => rfl
  have hx0 : Ext w ((w.alloc (.cells #[.int .i64 0, .int .i64 0, .int .i64 0, .int .i64 0, .int .i64 0, .slice none 0 0, .int .i64 0, .int .i64 0] 26)).alloc (.cells #[.int .i64 0] 34)) := ((Ext.refl w).alloc _).alloc _
  obtain ⟨hb, hc, hf⟩ := two_boxes w
  have HX0 := Lib.hid hx0
  have HB := Lib.hid (And.intro hb (And.intro hc hf))
  have HRD := Lib.hid hrd
  have t1 : decide ((400 : Int) < (s.length : Int)) = false := by simp; omega
  have t2 : decide (400 < s.length) = false := by simp; omega
  have HN := Lib.hid (And.intro hs hno)
  clear hb hc hf hs hx0 hno hrd
  go_enter_defers Tryz.func19, Tryz.ntmps19
  go_wp2_with (go_at_call 52; refine (HRD.out _ HX0.out).mono ?_; rintro e w3 ⟨why, rfl, hx3⟩)
  obtain ⟨hb, hc, hf⟩ := HB.out
  have hlt := (Array.getElem?_eq_some_iff.1 hb).1
  have hb3 := (hx3.block hlt).trans hb
  have hc3 := hx3.cell hc
  have hf3 := (hx3.frozen (lt_of_cell hc)).trans hf
  refine leaves_cons (f := 51) (args := #[.pointer (some ⟨w.heap.size, 0, none⟩), .pointer (some ⟨w.heap.size + 1, 0, none⟩)]) (by simp) (by simp [go_sem]) ?_
  refine (readD_strange w.heap.size (w.heap.size + 1) why _ w3 hb3 hc3 hf3 (by omega)).mono ?_
  rintro e u' w'' ⟨rfl, rfl, rfl⟩
  have hxa : Ext w3 (w3.alloc (.cells #[.string why] 95)) := (Ext.refl w3).alloc _
  have hst := box_set8 ((hxa.block (Array.getElem?_eq_some_iff.1 hb3).1).trans hb3) (.int .i64 0) (.int .i64 0) (.int .i64 0) (.int .i64 0) (.int .i64 0) (.slice none 0 0) (.int .i64 0) (.int .i64 0)
  have hcA := hst.2.2.cell (hxa.cell hc3) (by simp)
  have hxA := hst.2.1 w ((HX0.out.trans hx3).trans hxa) (Nat.le_refl _)
  have hbA := hst.1
  unfold doneW
  generalize (w3.alloc (.cells #[.string why] 95)).setCells w.heap.size 0 [.int .i64 0, .int .i64 0, .int .i64 0, .int .i64 0, .int .i64 0, .slice none 0 0, .int .i64 0, .int .i64 0] = W2 at *
  have hbE : (W2.setCell ⟨w.heap.size + 1, 0, none⟩ (.int .i64 4)).heap[w.heap.size]? = some (.cells #[.int .i64 0, .int .i64 0, .int .i64 0, .int .i64 0, .int .i64 0, .slice none 0 0, .int .i64 0, .int .i64 0] 26 (0, 0)) := ((Touch.setCell (M := (· = w.heap.size + 1)) (A := W2) (a := ⟨w.heap.size + 1, 0, none⟩) (.int .i64 4) rfl).keep w.heap.size _ hbA (by simp))
  have hcE : (W2.setCell ⟨w.heap.size + 1, 0, none⟩ (.int .i64 4)).cell? ⟨w.heap.size + 1, 0, none⟩ = some (.int .i64 4) := World.cell?_setCell_same _ _ _ hcA
  simp only [Leaves, settle, List.dropWhile]
  exact ⟨_, read_results rfl rfl hbE hcE, _, 4, rfl, hxA.setCell (p := ⟨w.heap.size + 1, 0, none⟩) (by simp) _, fun h => (by have := HN.out.1; omega), fun _ _ => ⟨rfl, rfl⟩, fun _ r hr => absurd ⟨r, hr⟩ HN.out.2⟩
theorem box_all {W : World} {b : Nat} {t : TypeId} {c0 c1 c2 c3 c4 c5 c6 c7 : Value} (h : W.heap[b]? = some (.cells #[c0, c1, c2, c3, c4, c5, c6, c7] t (0, 0))) : W.cell? ⟨b, 0, none⟩ = some c0 ∧ W.cell? ⟨b, 1, none⟩ = some c1 ∧ W.cell? ⟨b, 2, none⟩ = some c2 ∧ W.cell? ⟨b, 3, none⟩ = some c3 ∧ W.cell? ⟨b, 4, none⟩ = some c4 ∧ W.cell? ⟨b, 5, none⟩ = some c5 ∧ W.cell? ⟨b, 6, none⟩ = some c6 ∧ W.cell? ⟨b, 7, none⟩ = some c7 := by
  simp [World.cell?, h]
set_option maxRecDepth 100000 in
set_option maxHeartbeats 16000000 in
theorem read_good (s : List UInt8) (r : Round) (w : World) (hs : s.length ≤ 400) (hr : TextOf s r) (hir : isRoundB r = true) (hrd : ∀ w1, Ext w w1 → Calls Tryz.prog 52 #[strV s] w1 fun e w' => ∃ v, e = .returned v ∧ RoundNew w1 w' v r ∧ Ext w1 w') : Calls Tryz.prog 19 #[strV s] w (ReadRes s w) := by
  have hmf : ∀ (fn : Fn) (first cap : Array Value) (w : World), (Instr.makeFunc fn first cap).run Tryz.prog w = .ok (.func fn first cap) w := fun _ _ _ _ => rfl
  have hx0 : Ext w ((w.alloc (.cells #[.int .i64 0, .int .i64 0, .int .i64 0, .int .i64 0, .int .i64 0, .slice none 0 0, .int .i64 0, .int .i64 0] 26)).alloc (.cells #[.int .i64 0] 34)) := ((Ext.refl w).alloc _).alloc _
  obtain ⟨hb, hc0, hf0⟩ := two_boxes w
  have HX0 := Lib.hid hx0
  have HB := Lib.hid (And.intro hb (And.intro hc0 hf0))
  have HRD := Lib.hid hrd
  have t1 : decide ((400 : Int) < (s.length : Int)) = false := by simp; omega
  have t2 : decide (400 < s.length) = false := by simp; omega
  have HN := Lib.hid (And.intro hs hr)
  have HIR := Lib.hid (fun w1 v (h : RoundAt w1 v r) => isRound_any v r w1 h)
  rw [hir] at HIR
  have HIRB := Lib.hid hir
  clear hb hc0 hf0 hs hx0 hr hrd hir
  go_enter_defers Tryz.func19, Tryz.ntmps19
  go_upto_region 5 with (go_at_call 52; refine (HRD.out _ HX0.out).mono ?_; rintro e w3 ⟨v, rfl, hrv, hx3⟩; obtain ⟨hv, rfl, hh, hlo⟩ := hrv; have hH := Lib.hid hh; have HLOW := Lib.hid hlo; clear hlo; obtain ⟨ha, hc, rfl, _⟩ := hh.open; unfold Round.cells at *; clear hh; obtain ⟨hb, hc0, hf0⟩ := HB.out; have hb3 := (hx3.block (Array.getElem?_eq_some_iff.1 hb).1).trans hb; have HB3 := Lib.hid hb3; have HC3 := Lib.hid (And.intro (hx3.cell hc0) ((hx3.frozen (lt_of_cell hc0)).trans hf0)); obtain ⟨⟨k0, f0⟩, ⟨k1, f1⟩, ⟨k2, f2⟩, ⟨k3, f3⟩, ⟨k4, f4⟩, ⟨k5, f5⟩, ⟨k6, f6⟩, ⟨k7, f7⟩⟩ := box_steps hb3 (.int .i64 r.per) (.int .i64 r.lo) (.int .i64 r.hi) (.int .i64 r.card) (.int .i64 r.slack) (.slice ha r.houses.length hc) (.int .i64 r.all) (.int .i64 r.off); clear hb hc0 hf0 hb3)
  obtain ⟨hbD, hxD, htD⟩ := box_done HB3.out (.int .i64 r.per) (.int .i64 r.lo) (.int .i64 r.hi) (.int .i64 r.card) (.int .i64 r.slack) (.slice ha r.houses.length hc) (.int .i64 r.all) (.int .i64 r.off)
  have hcD := htD.cell HC3.out.1 (by simp)
  have hfD : ((((((((w3.setCell ⟨w.heap.size, 0, none⟩ (.int .i64 r.per)).setCell ⟨w.heap.size, 1, none⟩ (.int .i64 r.lo)).setCell ⟨w.heap.size, 2, none⟩ (.int .i64 r.hi)).setCell ⟨w.heap.size, 3, none⟩ (.int .i64 r.card)).setCell ⟨w.heap.size, 4, none⟩ (.int .i64 r.slack)).setCell ⟨w.heap.size, 5, none⟩ (.slice ha r.houses.length hc)).setCell ⟨w.heap.size, 6, none⟩ (.int .i64 r.all)).setCell ⟨w.heap.size, 7, none⟩ (.int .i64 r.off)).frozen? ⟨w.heap.size + 1, 0, none⟩ = false := by simp only [World.frozen?_setCell]; exact HC3.out.2
  have hHD : RowAt ((((((((w3.setCell ⟨w.heap.size, 0, none⟩ (.int .i64 r.per)).setCell ⟨w.heap.size, 1, none⟩ (.int .i64 r.lo)).setCell ⟨w.heap.size, 2, none⟩ (.int .i64 r.hi)).setCell ⟨w.heap.size, 3, none⟩ (.int .i64 r.card)).setCell ⟨w.heap.size, 4, none⟩ (.int .i64 r.slack)).setCell ⟨w.heap.size, 5, none⟩ (.slice ha r.houses.length hc)).setCell ⟨w.heap.size, 6, none⟩ (.int .i64 r.all)).setCell ⟨w.heap.size, 7, none⟩ (.int .i64 r.off)) (.slice ha r.houses.length hc) r.houses.length (r.houses.flatMap House.cells) := RowAt.touch hH.out htD (fun a n c e hm => by
    have h1 := HLOW.out a n c e
    simp only [World.size_alloc] at h1
    omega)
  have hxW := hxD w (HX0.out.trans hx3) (Nat.le_refl _)
  clear k0 k1 k2 k3 k4 k5 k6 k7 f0 f1 f2 f3 f4 f5 f6 f7
  generalize ((((((((w3.setCell ⟨w.heap.size, 0, none⟩ (.int .i64 r.per)).setCell ⟨w.heap.size, 1, none⟩ (.int .i64 r.lo)).setCell ⟨w.heap.size, 2, none⟩ (.int .i64 r.hi)).setCell ⟨w.heap.size, 3, none⟩ (.int .i64 r.card)).setCell ⟨w.heap.size, 4, none⟩ (.int .i64 r.slack)).setCell ⟨w.heap.size, 5, none⟩ (.slice ha r.houses.length hc)).setCell ⟨w.heap.size, 6, none⟩ (.int .i64 r.all)).setCell ⟨w.heap.size, 7, none⟩ (.int .i64 r.off)) = W4 at *
  have HW4 := Lib.hid (And.intro hbD (And.intro hcD (And.intro hfD (And.intro hHD hxW))))
  have HRA : Hid (RoundAt W4 (.agg #[.int .i64 r.per, .int .i64 r.lo, .int .i64 r.hi, .int .i64 r.card, .int .i64 r.slack, .slice ha r.houses.length hc, .int .i64 r.all, .int .i64 r.off]) r) := ⟨_, rfl, hHD⟩
  obtain ⟨l0, l1, l2, l3, l4, l5, l6, l7⟩ := box_all hbD
  clear hcD hfD hHD hxW hxD htD hbD hx3 HB3 HC3
  have HLO2 := HLOW
  go_wp2_with (go_at_call 39; refine (HIR.out _ _ HRA.out).mono ?_; rintro e w5 ⟨rfl, hx5⟩; clear l0 l1 l2 l3 l4 l5 l6 l7; have hlt5 := (Array.getElem?_eq_some_iff.1 HW4.out.1).1; have hb5 := (hx5.block hlt5).trans HW4.out.1; have HB5 := Lib.hid hb5; obtain ⟨l0, l1, l2, l3, l4, l5, l6, l7⟩ := box_all hb5; obtain ⟨⟨k0, f0⟩, ⟨k1, f1⟩, ⟨k2, f2⟩, ⟨k3, f3⟩, ⟨k4, f4⟩, ⟨k5, f5⟩, ⟨k6, f6⟩, ⟨k7, f7⟩⟩ := box_steps hb5 (.int .i64 r.per) (.int .i64 r.lo) (.int .i64 r.hi) (.int .i64 r.card) (.int .i64 r.slack) (.slice ha r.houses.length hc) (.int .i64 r.all) (.int .i64 r.off); have hd5 := box_done hb5 (.int .i64 r.per) (.int .i64 r.lo) (.int .i64 r.hi) (.int .i64 r.card) (.int .i64 r.slack) (.slice ha r.houses.length hc) (.int .i64 r.all) (.int .i64 r.off); have he5 := hd5.2.2.cell (hx5.cell HW4.out.2.1) (by simp); have hf5 : ((((((((w5.setCell ⟨w.heap.size, 0, none⟩ (.int .i64 r.per)).setCell ⟨w.heap.size, 1, none⟩ (.int .i64 r.lo)).setCell ⟨w.heap.size, 2, none⟩ (.int .i64 r.hi)).setCell ⟨w.heap.size, 3, none⟩ (.int .i64 r.card)).setCell ⟨w.heap.size, 4, none⟩ (.int .i64 r.slack)).setCell ⟨w.heap.size, 5, none⟩ (.slice ha r.houses.length hc)).setCell ⟨w.heap.size, 6, none⟩ (.int .i64 r.all)).setCell ⟨w.heap.size, 7, none⟩ (.int .i64 r.off)).frozen? ⟨w.heap.size + 1, 0, none⟩ = false := (by simp only [World.frozen?_setCell]; exact (hx5.frozen (lt_of_cell HW4.out.2.1)).trans HW4.out.2.2.1); clear hb5 hd5)
  obtain ⟨hbF, hxF, htF⟩ := box_done HB5.out (.int .i64 r.per) (.int .i64 r.lo) (.int .i64 r.hi) (.int .i64 r.card) (.int .i64 r.slack) (.slice ha r.houses.length hc) (.int .i64 r.all) (.int .i64 r.off)
  have hxFw := hxF w (HW4.out.2.2.2.2.trans hx5) (Nat.le_refl _)
  have hH5 : RowAt w5 (.slice ha r.houses.length hc) r.houses.length (r.houses.flatMap House.cells) := RowAt.ext HW4.out.2.2.2.1 hx5
  have hH6 := RowAt.touch hH5 htF (fun a n c e hm => by
    have h1 := HLO2.out a n c e
    simp only [World.size_alloc] at h1
    omega)
  generalize ((((((((w5.setCell ⟨w.heap.size, 0, none⟩ (.int .i64 r.per)).setCell ⟨w.heap.size, 1, none⟩ (.int .i64 r.lo)).setCell ⟨w.heap.size, 2, none⟩ (.int .i64 r.hi)).setCell ⟨w.heap.size, 3, none⟩ (.int .i64 r.card)).setCell ⟨w.heap.size, 4, none⟩ (.int .i64 r.slack)).setCell ⟨w.heap.size, 5, none⟩ (.slice ha r.houses.length hc)).setCell ⟨w.heap.size, 6, none⟩ (.int .i64 r.all)).setCell ⟨w.heap.size, 7, none⟩ (.int .i64 r.off)) = W6 at *
  refine leaves_cons (f := 51) (args := #[.pointer (some ⟨w.heap.size, 0, none⟩), .pointer (some ⟨w.heap.size + 1, 0, none⟩)]) (by simp) (by simp [go_sem]) ?_
  refine (readD_idle _ _ _).mono ?_
  rintro e u' w'' ⟨rfl, rfl, rfl⟩
  have hbE : (W6.setCell ⟨w.heap.size + 1, 0, none⟩ (.int .i64 0)).heap[w.heap.size]? = _ := ((Touch.setCell (M := (· = w.heap.size + 1)) (A := W6) (a := ⟨w.heap.size + 1, 0, none⟩) (.int .i64 0) rfl).keep w.heap.size _ hbF (by simp))
  have hcE : (W6.setCell ⟨w.heap.size + 1, 0, none⟩ (.int .i64 0)).cell? ⟨w.heap.size + 1, 0, none⟩ = some (.int .i64 0) := World.cell?_setCell_same _ _ _ he5
  have hxE : Ext w (W6.setCell ⟨w.heap.size + 1, 0, none⟩ (.int .i64 0)) := hxFw.setCell (p := ⟨w.heap.size + 1, 0, none⟩) (by simp) _
  simp only [Leaves, settle]
  have hH7 := RowAt.touch hH6 (Touch.setCell (M := (· = w.heap.size + 1)) (A := W6) (a := ⟨w.heap.size + 1, 0, none⟩) (.int .i64 0) rfl) (fun a n c e hm => by
    have h1 := HLO2.out a n c e
    simp only [World.size_alloc] at h1
    omega)
  refine ⟨_, read_results rfl rfl hbE hcE, _, 0, rfl, hxE, fun h => (by have := HN.out.1; omega), fun _ hno => absurd ⟨r, HN.out.2⟩ hno, fun _ q hq => ?_⟩
  have hqr := textOf_one HN.out.2 hq
  subst hqr
  exact ⟨fun _ => ⟨rfl, _, rfl, hH7⟩, fun h => (by rw [HIRB.out] at h; cases h)⟩
set_option maxRecDepth 100000 in
set_option maxHeartbeats 16000000 in
theorem read_badr (s : List UInt8) (r : Round) (w : World) (hs : s.length ≤ 400) (hr : TextOf s r) (hir : isRoundB r = false) (hrd : ∀ w1, Ext w w1 → Calls Tryz.prog 52 #[strV s] w1 fun e w' => ∃ v, e = .returned v ∧ RoundNew w1 w' v r ∧ Ext w1 w') : Calls Tryz.prog 19 #[strV s] w (ReadRes s w) := by
  have hmf : ∀ (fn : Fn) (first cap : Array Value) (w : World), (Instr.makeFunc fn first cap).run Tryz.prog w = .ok (.func fn first cap) w := fun _ _ _ _ => rfl
  have hx0 : Ext w ((w.alloc (.cells #[.int .i64 0, .int .i64 0, .int .i64 0, .int .i64 0, .int .i64 0, .slice none 0 0, .int .i64 0, .int .i64 0] 26)).alloc (.cells #[.int .i64 0] 34)) := ((Ext.refl w).alloc _).alloc _
  obtain ⟨hb, hc0, hf0⟩ := two_boxes w
  have HX0 := Lib.hid hx0
  have HB := Lib.hid (And.intro hb (And.intro hc0 hf0))
  have HRD := Lib.hid hrd
  have t1 : decide ((400 : Int) < (s.length : Int)) = false := by simp; omega
  have t2 : decide (400 < s.length) = false := by simp; omega
  have HN := Lib.hid (And.intro hs hr)
  have HIR := Lib.hid (fun w1 v (h : RoundAt w1 v r) => isRound_any v r w1 h)
  rw [hir] at HIR
  have HIRB := Lib.hid hir
  clear hb hc0 hf0 hs hx0 hr hrd hir
  go_enter_defers Tryz.func19, Tryz.ntmps19
  go_upto_region 5 with (go_at_call 52; refine (HRD.out _ HX0.out).mono ?_; rintro e w3 ⟨v, rfl, hrv, hx3⟩; obtain ⟨hv, rfl, hh, hlo⟩ := hrv; have hH := Lib.hid hh; have HLOW := Lib.hid hlo; clear hlo; obtain ⟨ha, hc, rfl, _⟩ := hh.open; unfold Round.cells at *; clear hh; obtain ⟨hb, hc0, hf0⟩ := HB.out; have hb3 := (hx3.block (Array.getElem?_eq_some_iff.1 hb).1).trans hb; have HB3 := Lib.hid hb3; have HC3 := Lib.hid (And.intro (hx3.cell hc0) ((hx3.frozen (lt_of_cell hc0)).trans hf0)); obtain ⟨⟨k0, f0⟩, ⟨k1, f1⟩, ⟨k2, f2⟩, ⟨k3, f3⟩, ⟨k4, f4⟩, ⟨k5, f5⟩, ⟨k6, f6⟩, ⟨k7, f7⟩⟩ := box_steps hb3 (.int .i64 r.per) (.int .i64 r.lo) (.int .i64 r.hi) (.int .i64 r.card) (.int .i64 r.slack) (.slice ha r.houses.length hc) (.int .i64 r.all) (.int .i64 r.off); clear hb hc0 hf0 hb3)
  obtain ⟨hbD, hxD, htD⟩ := box_done HB3.out (.int .i64 r.per) (.int .i64 r.lo) (.int .i64 r.hi) (.int .i64 r.card) (.int .i64 r.slack) (.slice ha r.houses.length hc) (.int .i64 r.all) (.int .i64 r.off)
  have hcD := htD.cell HC3.out.1 (by simp)
  have hfD : ((((((((w3.setCell ⟨w.heap.size, 0, none⟩ (.int .i64 r.per)).setCell ⟨w.heap.size, 1, none⟩ (.int .i64 r.lo)).setCell ⟨w.heap.size, 2, none⟩ (.int .i64 r.hi)).setCell ⟨w.heap.size, 3, none⟩ (.int .i64 r.card)).setCell ⟨w.heap.size, 4, none⟩ (.int .i64 r.slack)).setCell ⟨w.heap.size, 5, none⟩ (.slice ha r.houses.length hc)).setCell ⟨w.heap.size, 6, none⟩ (.int .i64 r.all)).setCell ⟨w.heap.size, 7, none⟩ (.int .i64 r.off)).frozen? ⟨w.heap.size + 1, 0, none⟩ = false := by simp only [World.frozen?_setCell]; exact HC3.out.2
  have hHD : RowAt ((((((((w3.setCell ⟨w.heap.size, 0, none⟩ (.int .i64 r.per)).setCell ⟨w.heap.size, 1, none⟩ (.int .i64 r.lo)).setCell ⟨w.heap.size, 2, none⟩ (.int .i64 r.hi)).setCell ⟨w.heap.size, 3, none⟩ (.int .i64 r.card)).setCell ⟨w.heap.size, 4, none⟩ (.int .i64 r.slack)).setCell ⟨w.heap.size, 5, none⟩ (.slice ha r.houses.length hc)).setCell ⟨w.heap.size, 6, none⟩ (.int .i64 r.all)).setCell ⟨w.heap.size, 7, none⟩ (.int .i64 r.off)) (.slice ha r.houses.length hc) r.houses.length (r.houses.flatMap House.cells) := RowAt.touch hH.out htD (fun a n c e hm => by
    have h1 := HLOW.out a n c e
    simp only [World.size_alloc] at h1
    omega)
  have hxW := hxD w (HX0.out.trans hx3) (Nat.le_refl _)
  clear k0 k1 k2 k3 k4 k5 k6 k7 f0 f1 f2 f3 f4 f5 f6 f7
  generalize ((((((((w3.setCell ⟨w.heap.size, 0, none⟩ (.int .i64 r.per)).setCell ⟨w.heap.size, 1, none⟩ (.int .i64 r.lo)).setCell ⟨w.heap.size, 2, none⟩ (.int .i64 r.hi)).setCell ⟨w.heap.size, 3, none⟩ (.int .i64 r.card)).setCell ⟨w.heap.size, 4, none⟩ (.int .i64 r.slack)).setCell ⟨w.heap.size, 5, none⟩ (.slice ha r.houses.length hc)).setCell ⟨w.heap.size, 6, none⟩ (.int .i64 r.all)).setCell ⟨w.heap.size, 7, none⟩ (.int .i64 r.off)) = W4 at *
  have HW4 := Lib.hid (And.intro hbD (And.intro hcD (And.intro hfD (And.intro hHD hxW))))
  have HRA : Hid (RoundAt W4 (.agg #[.int .i64 r.per, .int .i64 r.lo, .int .i64 r.hi, .int .i64 r.card, .int .i64 r.slack, .slice ha r.houses.length hc, .int .i64 r.all, .int .i64 r.off]) r) := ⟨_, rfl, hHD⟩
  obtain ⟨l0, l1, l2, l3, l4, l5, l6, l7⟩ := box_all hbD
  clear hcD hfD hHD hxW hxD htD hbD hx3 HB3 HC3 HLOW
  go_wp2_with (go_at_call 39; refine (HIR.out _ _ HRA.out).mono ?_; rintro e w5 ⟨rfl, hx5⟩; clear l0 l1 l2 l3 l4 l5 l6 l7; have hlt5 := (Array.getElem?_eq_some_iff.1 HW4.out.1).1; have hb5 := (hx5.block hlt5).trans HW4.out.1; have HB5 := Lib.hid hb5; obtain ⟨l0, l1, l2, l3, l4, l5, l6, l7⟩ := box_all hb5; obtain ⟨⟨k0, f0⟩, ⟨k1, f1⟩, ⟨k2, f2⟩, ⟨k3, f3⟩, ⟨k4, f4⟩, ⟨k5, f5⟩, ⟨k6, f6⟩, ⟨k7, f7⟩⟩ := box_steps hb5 (.int .i64 0) (.int .i64 0) (.int .i64 0) (.int .i64 0) (.int .i64 0) (.slice none 0 0) (.int .i64 0) (.int .i64 0); have hd5 := box_done hb5 (.int .i64 0) (.int .i64 0) (.int .i64 0) (.int .i64 0) (.int .i64 0) (.slice none 0 0) (.int .i64 0) (.int .i64 0); have he5 := hd5.2.2.cell (hx5.cell HW4.out.2.1) (by simp); have hf5 : ((((((((w5.setCell ⟨w.heap.size, 0, none⟩ (.int .i64 0)).setCell ⟨w.heap.size, 1, none⟩ (.int .i64 0)).setCell ⟨w.heap.size, 2, none⟩ (.int .i64 0)).setCell ⟨w.heap.size, 3, none⟩ (.int .i64 0)).setCell ⟨w.heap.size, 4, none⟩ (.int .i64 0)).setCell ⟨w.heap.size, 5, none⟩ (.slice none 0 0)).setCell ⟨w.heap.size, 6, none⟩ (.int .i64 0)).setCell ⟨w.heap.size, 7, none⟩ (.int .i64 0)).frozen? ⟨w.heap.size + 1, 0, none⟩ = false := (by simp only [World.frozen?_setCell]; exact (hx5.frozen (lt_of_cell HW4.out.2.1)).trans HW4.out.2.2.1); clear hb5 hd5)
  obtain ⟨hbF, hxF, htF⟩ := box_done HB5.out (.int .i64 0) (.int .i64 0) (.int .i64 0) (.int .i64 0) (.int .i64 0) (.slice none 0 0) (.int .i64 0) (.int .i64 0)
  have hxFw := hxF w (HW4.out.2.2.2.2.trans hx5) (Nat.le_refl _)
  generalize ((((((((w5.setCell ⟨w.heap.size, 0, none⟩ (.int .i64 0)).setCell ⟨w.heap.size, 1, none⟩ (.int .i64 0)).setCell ⟨w.heap.size, 2, none⟩ (.int .i64 0)).setCell ⟨w.heap.size, 3, none⟩ (.int .i64 0)).setCell ⟨w.heap.size, 4, none⟩ (.int .i64 0)).setCell ⟨w.heap.size, 5, none⟩ (.slice none 0 0)).setCell ⟨w.heap.size, 6, none⟩ (.int .i64 0)).setCell ⟨w.heap.size, 7, none⟩ (.int .i64 0)) = W6 at *
  refine leaves_cons (f := 51) (args := #[.pointer (some ⟨w.heap.size, 0, none⟩), .pointer (some ⟨w.heap.size + 1, 0, none⟩)]) (by simp) (by simp [go_sem]) ?_
  refine (readD_idle _ _ _).mono ?_
  rintro e u' w'' ⟨rfl, rfl, rfl⟩
  have hbE : (W6.setCell ⟨w.heap.size + 1, 0, none⟩ (.int .i64 2)).heap[w.heap.size]? = _ := ((Touch.setCell (M := (· = w.heap.size + 1)) (A := W6) (a := ⟨w.heap.size + 1, 0, none⟩) (.int .i64 2) rfl).keep w.heap.size _ hbF (by simp))
  have hcE : (W6.setCell ⟨w.heap.size + 1, 0, none⟩ (.int .i64 2)).cell? ⟨w.heap.size + 1, 0, none⟩ = some (.int .i64 2) := World.cell?_setCell_same _ _ _ he5
  have hxE : Ext w (W6.setCell ⟨w.heap.size + 1, 0, none⟩ (.int .i64 2)) := hxFw.setCell (p := ⟨w.heap.size + 1, 0, none⟩) (by simp) _
  simp only [Leaves, settle]
  refine ⟨_, read_results rfl rfl hbE hcE, _, 2, rfl, hxE, fun h => (by have := HN.out.1; omega), fun _ hno => absurd ⟨r, HN.out.2⟩ hno, fun _ q hq => ?_⟩
  have hqr := textOf_one HN.out.2 hq
  subst hqr
  exact ⟨fun h => (by rw [HIRB.out] at h; cases h), fun _ => ⟨rfl, rfl⟩⟩
theorem read_res (s : List UInt8) (w : World) (hs : s.length ≤ 500) (hrd : ∀ w1, Ext w w1 → Calls Tryz.prog 52 #[strV s] w1 (ReadPost s w1)) : Calls Tryz.prog 19 #[strV s] w (ReadRes s w) := by
  by_cases h4 : 400 < s.length
  · exact read_long s w h4 (by omega)
  · by_cases hr : ∃ r, TextOf s r
    · obtain ⟨r, hr⟩ := hr
      have hrd' : ∀ w1, Ext w w1 → Calls Tryz.prog 52 #[strV s] w1 fun e w' => ∃ v, e = .returned v ∧ RoundNew w1 w' v r ∧ Ext w1 w' := fun w1 hx => (hrd w1 hx).mono fun e w' h => by
        rcases h with ⟨v, h1, _, h3, h4⟩ | ⟨h1, _⟩
        · rw [round_text hr] at h3; exact ⟨v, h1, h3, h4⟩
        · exact absurd ⟨r, hr⟩ h1
      cases hir : isRoundB r with
      | true => exact read_good s r w (by omega) hr hir hrd'
      | false => exact read_badr s r w (by omega) hr hir hrd'
    · refine read_none s w (by omega) hr fun w1 hx => (hrd w1 hx).mono fun e w' h => ?_
      rcases h with ⟨v, h1, h2, _, _⟩ | ⟨_, h2⟩
      · exact absurd ⟨_, h2⟩ hr
      · exact h2
end Go.Proofs.YtbeophjdiddomaaGreatDoor
