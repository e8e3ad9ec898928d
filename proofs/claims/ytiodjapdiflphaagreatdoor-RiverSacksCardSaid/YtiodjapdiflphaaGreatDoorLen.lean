/- Walks: least, greatest, Length, Ripe. -/
import Derived.Test.YtiodjapdiflphaaGreatDoorLook
import Derived.Test.YtiodjapdiflphaaGreatDoorBookq
namespace Go.Proofs.YtiodjapdiflphaaGreatDoor
open Go.RowKit
theorem ret_int {a b : Int} (h : a = b) : Ending.returned (.int .i64 a) = .returned (.int .i64 b) := by rw [h]
/-- The parts of a slice of rivers. -/
theorem RiversAt.open {w : World} {v : Value} {rs : List River} (h : RiversAt w v rs) : ∃ a c, v = .slice a rs.length c ∧ rs.length ≤ c ∧ c ≤ 9223372036854775807 ∧
  ∀ i, i < rs.length → ∃ b o gv r, a = some ⟨b, o, none⟩ ∧ Hid (rs[i]? = some r) ∧ w.cell? ⟨b, o + i * 3, none⟩ = some gv ∧ w.cell? ⟨b, o + i * 3 + 1, none⟩ = some (.int .i64 r.vary) ∧ w.cell? ⟨b, o + i * 3 + 2, none⟩ = some (.int .i64 r.closed) ∧ PairsAt w gv r.grow := by
 obtain ⟨xs, hx, hro, hg⟩ := h
 have hl : xs.length = rs.length := by rw [← hx]; simp
 obtain ⟨a, c, hv, h1, h2, h3⟩ := hro.open3 (f := riverC) (f0 := fun x => x.1) (f1 := fun x => .int .i64 x.2.vary) (f2 := fun x => .int .i64 x.2.closed) (fun _ => rfl)
 rw [hl] at hv h1
 refine ⟨a, c, hv, h1, h2, fun i hi => ?_⟩
 obtain ⟨b, o, x, ha, hxi, c0, c1, c2⟩ := h3 i (by omega)
 exact ⟨b, o, x.1, x.2, ha, (by unfold Hid; rw [← hx, List.getElem?_map, hxi.out]; rfl), c0, c1, c2, hg x (List.mem_of_getElem? hxi.out)⟩
/-- The parts of a slice of shells. -/
theorem ShellsAt.open {w : World} {v : Value} {ss : List Shell} (h : ShellsAt w v ss) : ∃ a c, v = .slice a ss.length c ∧ ss.length ≤ c ∧ c ≤ 9223372036854775807 ∧
  ∀ i, i < ss.length → ∃ b o rv s, a = some ⟨b, o, none⟩ ∧ Hid (ss[i]? = some s) ∧ w.cell? ⟨b, o + i * 2, none⟩ = some rv ∧ w.cell? ⟨b, o + i * 2 + 1, none⟩ = some (.int .i64 s.off) ∧ IntsAt w rv s.rings := by
 obtain ⟨xs, hx, hro, hg⟩ := h
 have hl : xs.length = ss.length := by rw [← hx]; simp
 obtain ⟨a, c, hv, h1, h2, h3⟩ := hro.open2 (f := shellC) (f0 := fun x => x.1) (f1 := fun x => .int .i64 x.2.off) (fun _ => rfl)
 rw [hl] at hv h1
 refine ⟨a, c, hv, h1, h2, fun i hi => ?_⟩
 obtain ⟨b, o, x, ha, hxi, c0, c1⟩ := h3 i (by omega)
 exact ⟨b, o, x.1, x.2, ha, (by unfold Hid; rw [← hx, List.getElem?_map, hxi.out]; rfl), c0, c1, hg x (List.mem_of_getElem? hxi.out)⟩
theorem PairsAt.open {w : World} {v : Value} {xs : List (Int × Int)} (h : PairsAt w v xs) : ∃ a c, v = .slice a xs.length c ∧ xs.length ≤ c ∧ c ≤ 9223372036854775807 ∧
  ∀ i, i < xs.length → ∃ b o x, a = some ⟨b, o, none⟩ ∧ Hid (xs[i]? = some x) ∧ w.cell? ⟨b, o + i * 2, none⟩ = some (.int .i64 x.1) ∧ w.cell? ⟨b, o + i * 2 + 1, none⟩ = some (.int .i64 x.2) :=
 RowOf.open2 (f := pairC) (f0 := fun s => .int .i64 s.1) (f1 := fun s => .int .i64 s.2) (fun _ => rfl) h
set_option maxRecDepth 100000 in
set_option maxHeartbeats 1000000 in
theorem least_any (gv : Value) (r : River) (y : Nat) (s : Int × Int) (w : World) (hg : PairsAt w gv r.grow) (hy : r.grow[y]? = some s) (hs : 0 ≤ s.1 ∧ s.1 ≤ s.2 ∧ s.2 ≤ 40) (hv : 0 ≤ r.vary ∧ r.vary ≤ 3) :
  Calls Tryz.prog 62 #[.agg #[gv, .int .i64 r.vary, .int .i64 r.closed], .int .i64 y] w fun e w' => e = .returned (.int .i64 (max 0 (s.1 - r.vary))) ∧ Ext w w' := by
 obtain ⟨ga, gc, rfl, g1, g2, g3⟩ := hg.open
 have hlt := (List.getElem?_eq_some_iff.1 hy).1
 obtain ⟨b, o, s', rfl, hs', c0, c1⟩ := g3 y hlt
 have hs'' := hs'.out
 rw [hy] at hs''
 cases hs''
 have d0 := ((Ext.refl w).alloc (.cells #[.slice (some ⟨b, o, none⟩) r.grow.length gc, .int .i64 r.vary, .int .i64 r.closed] 125)).cell c0
 have i1 : (0 : Int) ≤ (y : Int) := by omega
 have i2 : (y : Int) < (r.grow.length : Int) := by omega
 have hmix : Tryz.prog.follows .mixedOrders = true := by kernel_rfl
 clear g3 hy hs' hg c0 c1
 go_enter Tryz.func62, Tryz.ntmps62
 go_wp2
 go_quiet (fail)
 all_goals go_wp2
 all_goals go_ret
 all_goals exact ⟨ret_int (by omega), ((Ext.refl w).alloc _).drewN _⟩
set_option maxRecDepth 100000 in
set_option maxHeartbeats 1000000 in
theorem greatest_any (gv : Value) (r : River) (y : Nat) (s : Int × Int) (w : World) (hg : PairsAt w gv r.grow) (hy : r.grow[y]? = some s) (hs : 0 ≤ s.1 ∧ s.1 ≤ s.2 ∧ s.2 ≤ 40) (hv : 0 ≤ r.vary ∧ r.vary ≤ 3) :
  Calls Tryz.prog 63 #[.agg #[gv, .int .i64 r.vary, .int .i64 r.closed], .int .i64 y] w fun e w' => e = .returned (.int .i64 (s.2 + r.vary)) ∧ Ext w w' := by
 obtain ⟨ga, gc, rfl, g1, g2, g3⟩ := hg.open
 have hlt := (List.getElem?_eq_some_iff.1 hy).1
 obtain ⟨b, o, s', rfl, hs', c0, c1⟩ := g3 y hlt
 have hs'' := hs'.out
 rw [hy] at hs''
 cases hs''
 have d0 := ((Ext.refl w).alloc (.cells #[.slice (some ⟨b, o, none⟩) r.grow.length gc, .int .i64 r.vary, .int .i64 r.closed] 125)).cell c1
 have i1 : (0 : Int) ≤ (y : Int) := by omega
 have i2 : (y : Int) < (r.grow.length : Int) := by omega
 have hmix : Tryz.prog.follows .mixedOrders = true := by kernel_rfl
 clear g3 hy hs' hg c0 c1
 go_enter Tryz.func63, Tryz.ntmps63
 go_wp2
 go_quiet (fail)
 go_wp2
 go_ret
 exact ⟨rfl, ((Ext.refl w).alloc _).drewN _⟩
/-! ### Length -/
theorem isRiver_anyB (rv : Value) (b : Book) (n : Int) (w : World) (hb : BookAt w (.agg #[.int .i64 b.years, rv]) b) :
  Calls Tryz.prog 60 #[.agg #[.int .i64 b.years, rv], .int .i64 n] w fun e w' => e = .returned (.bool (isRiverB b n)) ∧ Ext w w' := isRiver_any rv b n w hb
theorem isYear_anyB (rv : Value) (b : Book) (n : Int) (w : World) (hr : ∃ a k c, rv = .slice a k c) (h : isBookB b = true) :
  Calls Tryz.prog 61 #[.agg #[.int .i64 b.years, rv], .int .i64 n] w fun e w' => e = .returned (.bool (isYearB b n)) ∧ Ext w w' :=
 isYear_any rv b.years n w hr (bookB_of h).y1 (by have := (bookB_of h).y2; omega)
def lengthArg (b : Book) (r y z : Int) : Bool := isBookB b && isRiverB b r && isYearB b y && isYearB b z && decide (y ≤ z)
def LengthRes (b : Book) (r y z : Int) (w : World) (e : Ending) (w' : World) : Prop :=
 Ext w w' ∧ e = .returned (.tuple #[.agg #[.int .i64 (if lengthArg b r y z then (lengthOf b r y z).1 else 0), .int .i64 (if lengthArg b r y z then (lengthOf b r y z).2 else 0)], .int .i64 (if lengthArg b r y z then 0 else 2)])
set_option maxRecDepth 100000 in
set_option maxHeartbeats 4000000 in
theorem Length_no (v : Value) (b : Book) (r y z : Int) (w : World) (hb : BookAt w v b) (hno : lengthArg b r y z = false) :
  Calls Tryz.prog 26 #[v, .int .i64 r, .int .i64 y, .int .i64 z] w (LengthRes b r y z w) := by
 have hfin : ∀ w', Ext w w' → LengthRes b r y z w (.returned (.tuple #[.agg #[.int .i64 0, .int .i64 0], .int .i64 2])) w' := fun w' hx => ⟨hx, by rw [hno]; rfl⟩
 have HF := Lib.hid hfin
 have hway : isBookB b = false ∨ (isBookB b = true ∧ isRiverB b r = false) ∨ (isBookB b = true ∧ isRiverB b r = true ∧ isYearB b y = false) ∨ (isBookB b = true ∧ isRiverB b r = true ∧ isYearB b y = true ∧ isYearB b z = false) ∨
   (isBookB b = true ∧ isRiverB b r = true ∧ isYearB b y = true ∧ isYearB b z = true ∧ z < y) := by
  clear HF hfin
  unfold lengthArg at hno
  cases q1 : isBookB b <;> cases q2 : isRiverB b r <;> cases q3 : isYearB b y <;> cases q4 : isYearB b z <;> simp_all
 have HB := Lib.hid (fun w1 (hx : Ext w w1) => isBook_any v b w1 (hb.ext hx))
 obtain ⟨rv, rfl, hr⟩ := hb
 have HR := Lib.hid (fun w1 (hx : Ext w w1) => isRiver_anyB rv b r w1 ⟨rv, rfl, hr.ext hx⟩)
 obtain ⟨ra, rc, rfl, r1, r2, _⟩ := hr.open
 have HY := Lib.hid (fun n w1 (h : isBookB b = true) => isYear_anyB (.slice ra b.rivers.length rc) b n w1 ⟨_, _, _, rfl⟩ h)
 have hx0 : Ext w ((w.alloc (.cells #[.int .i64 b.years, .slice ra b.rivers.length rc] 24)).alloc (.cells #[.int .i64 0, .int .i64 0] 52)) := ((Ext.refl w).alloc _).alloc _
 have HC := Lib.hid (fun W (h : Ext ((w.alloc (.cells #[.int .i64 b.years, .slice ra b.rivers.length rc] 24)).alloc (.cells #[.int .i64 0, .int .i64 0] 52)) W) =>
  (⟨h.cell (by go_simp), h.cell (by go_simp), h.cell (by go_simp), h.cell (by go_simp), (h.frozen (by simp)).trans (by go_simp), (h.frozen (by simp)).trans (by go_simp)⟩ : W.cell? ⟨w.heap.size, 0, none⟩ = some (.int .i64 b.years) ∧ W.cell? ⟨w.heap.size, 1, none⟩ = some (.slice ra b.rivers.length rc) ∧
   W.cell? ⟨w.heap.size + 1, 0, none⟩ = some (.int .i64 0) ∧ W.cell? ⟨w.heap.size + 1, 1, none⟩ = some (.int .i64 0) ∧ W.frozen? ⟨w.heap.size + 1, 0, none⟩ = false ∧ W.frozen? ⟨w.heap.size + 1, 1, none⟩ = false))
 have hy := Ext.refl ((w.alloc (.cells #[.int .i64 b.years, .slice ra b.rivers.length rc] 24)).alloc (.cells #[.int .i64 0, .int .i64 0] 52))
 have HX0 := Lib.hid hx0
 clear hfin hno hr hx0
 rcases hway with h1 | ⟨h1, h2⟩ | ⟨h1, h2, h3⟩ | ⟨h1, h2, h3, h4⟩ | ⟨h1, h2, h3, h4, h5⟩
 case' inr.inr.inr.inr => (have h5' : decide (z < y) = true := by simpa using h5)
 all_goals
  go_enter Tryz.func26, Tryz.ntmps26
  go_wp2_with (first
   | (go_at_call 46; refine (HB.out _ (HX0.out.trans hy)).mono ?_; rintro e w1 ⟨rfl, hx1⟩; replace hy := hy.trans hx1; clear hx1; obtain ⟨z0, z1, z2, z3, z4, z5⟩ := HC.out _ hy)
   | (go_at_call 60; refine (HR.out _ (HX0.out.trans hy)).mono ?_; rintro e w1 ⟨rfl, hx1⟩; replace hy := hy.trans hx1; clear hx1 z0 z1 z2 z3 z4 z5; obtain ⟨z0, z1, z2, z3, z4, z5⟩ := HC.out _ hy)
   | (go_at_call 61; refine (HY.out _ _ h1).mono ?_; rintro e w1 ⟨rfl, hx1⟩; replace hy := hy.trans hx1; clear hx1 z0 z1 z2 z3 z4 z5; obtain ⟨z0, z1, z2, z3, z4, z5⟩ := HC.out _ hy))
  refine bodyPost_ret (v := .tuple #[.agg #[.int .i64 0, .int .i64 0], .int .i64 2]) (by simp [results, Tryz.results26, go_sem, *]) rfl (HF.out _ ?_)
  exact ((HX0.out.trans hy).setCell (by simp) _).setCell (by simp) _
theorem riverOf_at {b : Book} {n : Nat} {r : River} (h : b.rivers[n]? = some r) : riverOf b n = r := by
 unfold riverOf; rw [List.getD_eq_getElem?_getD, Int.toNat_natCast, h]; rfl
theorem growOf_at {b : Book} {n y : Nat} {r : River} {s : Int × Int} (h : b.rivers[n]? = some r) (hs : r.grow[y]? = some s) : growOf b n y = s := by
 unfold growOf; rw [riverOf_at h, List.getD_eq_getElem?_getD, Int.toNat_natCast, hs]; rfl
theorem sumFrom_bound {f : Int → Int} {y : Int} {c : Int} : ∀ (n : Nat), (∀ k : Nat, k < n → 0 ≤ f (y + k) ∧ f (y + k) ≤ c) → 0 ≤ sumFrom f y n ∧ sumFrom f y n ≤ n * c
 | 0, _ => by simp [sumFrom]
 | n + 1, h => by
  have h1 := sumFrom_bound n (fun k hk => h k (by omega))
  have h2 := h n (by omega)
  have e : ((n + 1 : Nat) : Int) * c = n * c + c := by rw [Int.natCast_add, Int.add_mul]; simp
  rw [e]
  simp only [sumFrom]
  omega
/-- The bounds of what a year adds. -/
theorem year_range {b : Book} (hB : BookB b) {n y : Nat} {r : River} (h : b.rivers[n]? = some r) (hy : (y : Int) < b.years) : ∃ s, r.grow[y]? = some s ∧ (0 ≤ s.1 ∧ s.1 ≤ s.2 ∧ s.2 ≤ 40) ∧ (0 ≤ r.vary ∧ r.vary ≤ 3) ∧
  leastOf b n y = max 0 (s.1 - r.vary) ∧ greatestOf b n y = s.2 + r.vary ∧ 0 ≤ leastOf b n y ∧ leastOf b n y ≤ 43 ∧ 0 ≤ greatestOf b n y ∧ greatestOf b n y ≤ 43 := by
 have hm := List.mem_of_getElem? h
 have hl := hB.len r hm
 have hlt : y < r.grow.length := by omega
 have hs := hB.span r hm r.grow[y] (List.getElem_mem hlt)
 have hv := hB.vary r hm
 have hs' : r.grow[y]? = some r.grow[y] := by simp [hlt]
 refine ⟨r.grow[y], hs', ⟨hs.1, hs.2.1, hs.2.2.1⟩, hv, ?_⟩
 unfold leastOf greatestOf
 rw [growOf_at h hs', riverOf_at h]
 exact ⟨rfl, rfl, by omega, by omega, by omega, by omega⟩
/-- What the loops of Length keep: the two sums, in a block that has just been laid. -/
structure LenW (W wr : World) (s0 s1 : Int) : Prop where
 ext : Ext W wr
 c0 : wr.cell? ⟨W.heap.size, 0, none⟩ = some (.int .i64 s0)
 c1 : wr.cell? ⟨W.heap.size, 1, none⟩ = some (.int .i64 s1)
 f0 : wr.frozen? ⟨W.heap.size, 0, none⟩ = false
 f1 : wr.frozen? ⟨W.heap.size, 1, none⟩ = false
theorem LenW.move {W wr w2 : World} {s0 s1 : Int} (h : LenW W wr s0 s1) (k : Ext wr w2) : LenW W w2 s0 s1 :=
 ⟨h.ext.trans k, k.cell h.c0, k.cell h.c1, (k.frozen (lt_of_cell h.c0)).trans h.f0, (k.frozen (lt_of_cell h.c1)).trans h.f1⟩
theorem LenW.set0 {W wr : World} {s0 s1 : Int} (h : LenW W wr s0 s1) (n : Int) : LenW W (wr.setCell ⟨W.heap.size, 0, none⟩ (.int .i64 n)) n s1 := by
 obtain ⟨h1, h2, h3, h4, h5⟩ := h
 exact ⟨h1.setCell (Nat.le_refl _) _, by go_simp, by go_simp, by go_simp, by go_simp⟩
theorem LenW.set1 {W wr : World} {s0 s1 : Int} (h : LenW W wr s0 s1) (n : Int) : LenW W (wr.setCell ⟨W.heap.size, 1, none⟩ (.int .i64 n)) s0 n := by
 obtain ⟨h1, h2, h3, h4, h5⟩ := h
 exact ⟨h1.setCell (Nat.le_refl _) _, by go_simp, by go_simp, by go_simp, by go_simp⟩
theorem index_fn0 (p q : Value) (w : World) : (Instr.index 127 (.agg #[p, q]) (.int .i64 0)).run Tryz.prog w = .ok p w := by kernel_rfl
theorem index_fn1 (p q : Value) (w : World) : (Instr.index 127 (.agg #[p, q]) (.int .i64 1)).run Tryz.prog w = .ok q w := by kernel_rfl
set_option maxRecDepth 100000 in
set_option maxHeartbeats 8000000 in
theorem Length_yes (v : Value) (b : Book) (r y z : Nat) (w : World) (hb : BookAt w v b) (h1 : isBookB b = true) (h2 : isRiverB b r = true) (h3 : isYearB b y = true) (h4 : isYearB b z = true) (h5 : y ≤ z) :
  Calls Tryz.prog 26 #[v, .int .i64 r, .int .i64 y, .int .i64 z] w (LengthRes b r y z w) := by
 have h5' : decide ((z : Int) < (y : Int)) = false := by simp; omega
 have h5n : decide (z < y) = false := by simp; omega
 have hB := bookB_of h1
 have HB := Lib.hid (fun w1 (hx : Ext w w1) => isBook_any v b w1 (hb.ext hx))
 obtain ⟨rv, rfl, hr⟩ := hb
 have HR := Lib.hid (fun w1 (hx : Ext w w1) => isRiver_anyB rv b r w1 ⟨rv, rfl, hr.ext hx⟩)
 obtain ⟨ra, rc, rfl, r1, r2, r3⟩ := hr.open
 have hrl : r < b.rivers.length := by have := inB_iff.1 h2; omega
 have hzl : (z : Int) < b.years := by have := inB_iff.1 h4; omega
 obtain ⟨rb, ro, gv, R, rfl, hR, d0, d1, d2, hg⟩ := r3 r hrl
 have HY := Lib.hid (fun n w1 (h : isBookB b = true) => isYear_anyB (.slice (some ⟨rb, ro, none⟩) b.rivers.length rc) b n w1 ⟨_, _, _, rfl⟩ h)
 have hx0 : Ext w ((w.alloc (.cells #[.int .i64 b.years, .slice (some ⟨rb, ro, none⟩) b.rivers.length rc] 24)).alloc (.cells #[.int .i64 0, .int .i64 0] 52)) := ((Ext.refl w).alloc _).alloc _
 have HC := Lib.hid (fun W (h : Ext ((w.alloc (.cells #[.int .i64 b.years, .slice (some ⟨rb, ro, none⟩) b.rivers.length rc] 24)).alloc (.cells #[.int .i64 0, .int .i64 0] 52)) W) =>
  (⟨h.cell (by go_simp), h.cell (by go_simp), h.cell (by go_simp), h.cell (by go_simp), (h.frozen (by simp)).trans (by go_simp), (h.frozen (by simp)).trans (by go_simp)⟩ : W.cell? ⟨w.heap.size, 0, none⟩ = some (.int .i64 b.years) ∧ W.cell? ⟨w.heap.size, 1, none⟩ = some (.slice (some ⟨rb, ro, none⟩) b.rivers.length rc) ∧
   W.cell? ⟨w.heap.size + 1, 0, none⟩ = some (.int .i64 0) ∧ W.cell? ⟨w.heap.size + 1, 1, none⟩ = some (.int .i64 0) ∧ W.frozen? ⟨w.heap.size + 1, 0, none⟩ = false ∧ W.frozen? ⟨w.heap.size + 1, 1, none⟩ = false))
 have hy := Ext.refl ((w.alloc (.cells #[.int .i64 b.years, .slice (some ⟨rb, ro, none⟩) b.rivers.length rc] 24)).alloc (.cells #[.int .i64 0, .int .i64 0] 52))
 have HX0 := Lib.hid hx0
 have HD := Lib.hid (fun W (h : Ext w W) => (⟨h.cell d0, h.cell d1, h.cell d2⟩ : W.cell? ⟨rb, ro + r * 3, none⟩ = some gv ∧ W.cell? ⟨rb, ro + r * 3 + 1, none⟩ = some (.int .i64 R.vary) ∧ W.cell? ⟨rb, ro + r * 3 + 2, none⟩ = some (.int .i64 R.closed)))
 obtain ⟨ga, gc, rfl, _⟩ := hg.open
 have i1 : (0 : Int) ≤ (r : Int) := by omega
 have i2 : (r : Int) < (b.rivers.length : Int) := by omega
 have HG := Lib.hid hg
 have hmix : Tryz.prog.follows .mixedOrders = true := by kernel_rfl
 clear hr hx0 r3 d0 d1 d2 hg
 go_enter Tryz.func26, Tryz.ntmps26
 go_upto_region 3 with (first
   | (go_at_call 46; refine (HB.out _ (HX0.out.trans hy)).mono ?_; rintro e w1 ⟨rfl, hx1⟩; replace hy := hy.trans hx1; clear hx1; obtain ⟨z0, z1, z2, z3, z4, z5⟩ := HC.out _ hy)
   | (go_at_call 60; refine (HR.out _ (HX0.out.trans hy)).mono ?_; rintro e w1 ⟨rfl, hx1⟩; replace hy := hy.trans hx1; clear hx1 z0 z1 z2 z3 z4 z5; obtain ⟨z0, z1, z2, z3, z4, z5⟩ := HC.out _ hy)
   | (go_at_call 61; refine (HY.out _ _ h1).mono ?_; rintro e w1 ⟨rfl, hx1⟩; replace hy := hy.trans hx1; clear hx1 z0 z1 z2 z3 z4 z5; obtain ⟨z0, z1, z2, z3, z4, z5⟩ := HC.out _ hy))
 rename_i W
 obtain ⟨d0, d1, d2⟩ := HD.out _ (HX0.out.trans hy)
 go_wp2
 have hW : ∃ W, W = w1.alloc (.cells #[.slice ga R.grow.length gc, .int .i64 R.vary, .int .i64 R.closed] 125) := ⟨_, rfl⟩
 obtain ⟨W, hW⟩ := hW
 have hs : W.heap.size = w1.heap.size + 1 := by rw [hW]; simp
 have hL0 : LenW W (W.alloc (.cells #[.int .i64 0, .int .i64 0] 126)) 0 0 := ⟨(Ext.refl _).alloc _, by go_simp, by go_simp, by go_simp, by go_simp⟩
 have hxW : Ext ((w.alloc (.cells #[.int .i64 b.years, .slice (some ⟨rb, ro, none⟩) b.rivers.length rc] 24)).alloc (.cells #[.int .i64 0, .int .i64 0] 52)) W := by rw [hW]; exact hy.alloc _
 rw [← hs, ← hW]
 clear hW hs hy z0 z1 z2 z3 z4 z5 d0 d1 d2
 go_loopw [53] (fun i wr => ∃ k : Nat, k ≤ 2 ∧ i = .int .i64 k ∧ LenW W wr (if 1 ≤ k then (lengthOf b r y z).1 else 0) (if 2 ≤ k then (lengthOf b r y z).2 else 0)) (fun i _ => 2 - (intOf i).toNat)
 case atStart => exact ⟨0, by omega, rfl, hL0⟩
 case round =>
  obtain ⟨k, hk, rfl, hL⟩ := hrel
  have hk3 : k = 0 ∨ k = 1 ∨ k = 2 := by omega
  clear hL0
  rcases hk3 with rfl | rfl | rfl
  ·have hL' : LenW W wr 0 0 := by simpa using hL
   clear hL
   have hix := index_fn0
   rw [show ((0 : Nat) : Int) = 0 from rfl]
   go_wp2
   go_loopw [14] (fun t wi => ∃ j : Nat, y + j ≤ z + 1 ∧ t = .int .i64 ((y + j : Nat) : Int) ∧ LenW W wi (sumFrom (leastOf b r) y j) 0) (fun t _ => z + 1 - (intOf t).toNat)
   case atStart => exact ⟨0, by omega, rfl, hL'⟩
   case round =>
    obtain ⟨j, hj, rfl, hl⟩ := hrel
    by_cases hlt : y + j ≤ z
    ·obtain ⟨s, hs, hs1, hv, e0, e1, _⟩ := year_range hB hR.out (y := y + j) (by omega)
     have hsb := sumFrom_bound (f := leastOf b r) (y := y) (c := 43) j (fun k hk => by
      obtain ⟨_, _, _, _, _, _, q1, q2, q3, q4⟩ := year_range hB hR.out (y := y + k) (by omega)
      rw [Int.natCast_add] at q1 q2 q3 q4
      exact ⟨q1, q2⟩)
     have hyj : ((y : Int) + (j : Int)) = ((y + j : Nat) : Int) := by rw [Int.natCast_add]
     have h0 : sumFrom (leastOf b r) y (j + 1) = sumFrom (leastOf b r) y j + max 0 (s.1 - R.vary) := by simp only [sumFrom]; rw [hyj, e0]
     have hj6 := hB.y2
     have hwr : IntKind.i64.wrap (sumFrom (leastOf b r) y j + max 0 (s.1 - R.vary)) = sumFrom (leastOf b r) y (j + 1) := by rw [h0]; exact IntWalk.i64_in _ (by omega)
     have HE := Lib.hid hwr
     have HF := Lib.hid (fun w1 (hx : Ext wr w1) => least_any (.slice ga R.grow.length gc) R (y + j) s w1 (HG.out.ext ((HX0.out.trans hxW).trans (hl.ext.trans hx))) hs hs1 hv)
     have hlt' : decide (((y : Int) + (j : Int)) ≤ (z : Int)) = true := by simp; omega
     have HL := Lib.hid (fun w2 (hx : Ext wr w2) => hl.move hx)
     obtain ⟨hle, c0, c1, f0, f1⟩ := hl
     clear hs e0 e1 hyj h0 hwr
     go_upto_region 11 with fail
     go_region_with (go_at_call 62; refine (HF.out _ (by first | exact Ext.refl _ | exact (Ext.refl wr).drew)).mono ?_; rintro e w2 ⟨rfl, hx2⟩; have hxr2 := Ext.trans (by first | exact Ext.refl wr | exact (Ext.refl wr).drew) hx2; have hL2 := HL.out _ hxr2; obtain ⟨_, q0, q1, q2, q3⟩ := HL.out _ hxr2)
     all_goals rw [HE.out]
     all_goals have HN := Lib.hid (hL2.set0 (sumFrom (leastOf b r) y (j + 1)))
     all_goals clear hL2
     all_goals
      go_wp2
      go_roundw
      case rel => exact ⟨j + 1, by omega, by go_num, HN.out⟩
      case measure => simp [intOf]; omega
    ·have hje : y + j = z + 1 := by omega
     have hfin : (lengthOf b r y z).1 = sumFrom (leastOf b r) y j := by
      have hq : ((z : Int) + 1 - (y : Int)).toNat = j := by omega
      unfold lengthOf; rw [hq]
     rw [← hfin] at hl
     have hlt' : decide (((y : Int) + (j : Int)) ≤ (z : Int)) = false := by simp; omega
     have HN := Lib.hid hl
     clear hl hfin hje
     go_wp2
     exact ⟨⟨1, by omega, by go_num, by simpa using HN.out⟩, by simp [intOf]⟩
  ·have hL' : LenW W wr (lengthOf b r y z).1 0 := by simpa using hL
   clear hL
   have hix := index_fn1
   rw [show ((1 : Nat) : Int) = 1 from rfl]
   go_wp2
   go_loopw [14] (fun t wi => ∃ j : Nat, y + j ≤ z + 1 ∧ t = .int .i64 ((y + j : Nat) : Int) ∧ LenW W wi (lengthOf b r y z).1 (sumFrom (greatestOf b r) y j)) (fun t _ => z + 1 - (intOf t).toNat)
   case atStart => exact ⟨0, by omega, rfl, hL'⟩
   case round =>
    obtain ⟨j, hj, rfl, hl⟩ := hrel
    by_cases hlt : y + j ≤ z
    ·obtain ⟨s, hs, hs1, hv, e0, e1, _⟩ := year_range hB hR.out (y := y + j) (by omega)
     have hsb := sumFrom_bound (f := greatestOf b r) (y := y) (c := 43) j (fun k hk => by
      obtain ⟨_, _, _, _, _, _, q1, q2, q3, q4⟩ := year_range hB hR.out (y := y + k) (by omega)
      rw [Int.natCast_add] at q1 q2 q3 q4
      exact ⟨q3, q4⟩)
     have hyj : ((y : Int) + (j : Int)) = ((y + j : Nat) : Int) := by rw [Int.natCast_add]
     have h0 : sumFrom (greatestOf b r) y (j + 1) = sumFrom (greatestOf b r) y j + (s.2 + R.vary) := by simp only [sumFrom]; rw [hyj, e1]
     have hj6 := hB.y2
     have hwr : IntKind.i64.wrap (sumFrom (greatestOf b r) y j + (s.2 + R.vary)) = sumFrom (greatestOf b r) y (j + 1) := by rw [h0]; exact IntWalk.i64_in _ (by omega)
     have HE := Lib.hid hwr
     have HF := Lib.hid (fun w1 (hx : Ext wr w1) => greatest_any (.slice ga R.grow.length gc) R (y + j) s w1 (HG.out.ext ((HX0.out.trans hxW).trans (hl.ext.trans hx))) hs hs1 hv)
     have hlt' : decide (((y : Int) + (j : Int)) ≤ (z : Int)) = true := by simp; omega
     have HL := Lib.hid (fun w2 (hx : Ext wr w2) => hl.move hx)
     obtain ⟨hle, c0, c1, f0, f1⟩ := hl
     clear hs e0 e1 hyj h0 hwr
     go_upto_region 11 with fail
     go_region_with (go_at_call 63; refine (HF.out _ (by first | exact Ext.refl _ | exact (Ext.refl wr).drew)).mono ?_; rintro e w2 ⟨rfl, hx2⟩; have hxr2 := Ext.trans (by first | exact Ext.refl wr | exact (Ext.refl wr).drew) hx2; have hL2 := HL.out _ hxr2; obtain ⟨_, q0, q1, q2, q3⟩ := HL.out _ hxr2)
     all_goals rw [HE.out]
     all_goals have HN := Lib.hid (hL2.set1 (sumFrom (greatestOf b r) y (j + 1)))
     all_goals clear hL2
     all_goals
      go_wp2
      go_roundw
      case rel => exact ⟨j + 1, by omega, by go_num, HN.out⟩
      case measure => simp [intOf]; omega
    ·have hje : y + j = z + 1 := by omega
     have hfin : (lengthOf b r y z).2 = sumFrom (greatestOf b r) y j := by
      have hq : ((z : Int) + 1 - (y : Int)).toNat = j := by omega
      unfold lengthOf; rw [hq]
     rw [← hfin] at hl
     have hlt' : decide (((y : Int) + (j : Int)) ≤ (z : Int)) = false := by simp; omega
     have HN := Lib.hid hl
     clear hl hfin hje
     go_wp2
     exact ⟨⟨2, by omega, by go_num, by simpa using HN.out⟩, by simp [intOf]⟩
  ·have hL' : LenW W wr (lengthOf b r y z).1 (lengthOf b r y z).2 := by simpa using hL
   clear hL
   have hR0 := HC.out wr (hxW.trans hL'.ext)
   obtain ⟨z0, z1, z2, z3, z4, z5⟩ := hR0
   have hfin : ∀ w', Ext w w' → LengthRes b r y z w (.returned (.tuple #[.agg #[.int .i64 (lengthOf b r y z).1, .int .i64 (lengthOf b r y z).2], .int .i64 0])) w' := fun w' hx => ⟨hx, by
    have : lengthArg b r y z = true := by unfold lengthArg; simp [h1, h2, h3, h4, h5]
    rw [this]; rfl⟩
   have HF := Lib.hid hfin
   obtain ⟨hle, c0, c1, f0, f1⟩ := hL'
   have hxw := HX0.out.trans (hxW.trans hle)
   clear hfin h1 h2 h3 h4 hle
   go_wp2
   refine bodyPost_ret (v := .tuple #[.agg #[.int .i64 (lengthOf b r y z).1, .int .i64 (lengthOf b r y z).2], .int .i64 0]) (by simp [results, Tryz.results26, go_sem, *]) rfl (HF.out _ ?_)
   exact (hxw.setCell (by simp) _).setCell (by simp) _
end Go.Proofs.YtiodjapdiflphaaGreatDoor
/- Walks: Ripe. -/
namespace Go.Proofs.YtiodjapdiflphaaGreatDoor
open Go.RowKit
def ripeArg (b : Book) (r y size : Int) : Bool := isBookB b && isRiverB b r && isYearB b y && inB size 0 300
def RipeRes (b : Book) (r y size : Int) (w : World) (e : Ending) (w' : World) : Prop :=
 Ext w w' ∧ e = .returned (.tuple #[.int .i64 (if ripeArg b r y size then (match ripeOf b r y size with | some k => y + k | none => 0) else 0), .int .i64 (if ripeArg b r y size then (match ripeOf b r y size with | some _ => 0 | none => 5) else 2)])
set_option maxRecDepth 100000 in
set_option maxHeartbeats 4000000 in
theorem Ripe_no (v : Value) (b : Book) (r y size : Int) (w : World) (hb : BookAt w v b) (hno : ripeArg b r y size = false) :
  Calls Tryz.prog 27 #[v, .int .i64 r, .int .i64 y, .int .i64 size] w (RipeRes b r y size w) := by
 have hfin : ∀ w', Ext w w' → RipeRes b r y size w (.returned (.tuple #[.int .i64 0, .int .i64 2])) w' := fun w' hx => ⟨hx, by rw [hno]; rfl⟩
 have HF := Lib.hid hfin
 have hway : isBookB b = false ∨ (isBookB b = true ∧ isRiverB b r = false) ∨ (isBookB b = true ∧ isRiverB b r = true ∧ isYearB b y = false) ∨ (isBookB b = true ∧ isRiverB b r = true ∧ isYearB b y = true ∧ inB size 0 300 = false) := by
  clear HF hfin
  unfold ripeArg at hno
  cases q1 : isBookB b <;> cases q2 : isRiverB b r <;> cases q3 : isYearB b y <;> cases q4 : inB size 0 300 <;> simp_all
 have HB := Lib.hid (fun w1 (hx : Ext w w1) => isBook_any v b w1 (hb.ext hx))
 obtain ⟨rv, rfl, hr⟩ := hb
 have HR := Lib.hid (fun w1 (hx : Ext w w1) => isRiver_anyB rv b r w1 ⟨rv, rfl, hr.ext hx⟩)
 obtain ⟨ra, rc, rfl, r1, r2, _⟩ := hr.open
 have HY := Lib.hid (fun n w1 (h : isBookB b = true) => isYear_anyB (.slice ra b.rivers.length rc) b n w1 ⟨_, _, _, rfl⟩ h)
 have hx0 : Ext w (w.alloc (.cells #[.int .i64 b.years, .slice ra b.rivers.length rc] 24)) := (Ext.refl w).alloc _
 have HC := Lib.hid (fun W (h : Ext (w.alloc (.cells #[.int .i64 b.years, .slice ra b.rivers.length rc] 24)) W) =>
  (⟨h.cell (by go_simp), h.cell (by go_simp)⟩ : W.cell? ⟨w.heap.size, 0, none⟩ = some (.int .i64 b.years) ∧ W.cell? ⟨w.heap.size, 1, none⟩ = some (.slice ra b.rivers.length rc)))
 have hy := Ext.refl (w.alloc (.cells #[.int .i64 b.years, .slice ra b.rivers.length rc] 24))
 have HX0 := Lib.hid hx0
 clear hfin hno hr hx0
 rcases hway with h1 | ⟨h1, h2⟩ | ⟨h1, h2, h3⟩ | ⟨h1, h2, h3, h4⟩
 all_goals
  go_enter Tryz.func27, Tryz.ntmps27
  go_wp2_with (first
   | (go_at_call 36; refine (in_any _ _ _ _).mono ?_; rintro e w' ⟨rfl, rfl⟩)
   | (go_at_call 46; refine (HB.out _ (HX0.out.trans hy)).mono ?_; rintro e w1 ⟨rfl, hx1⟩; replace hy := hy.trans hx1; clear hx1; obtain ⟨z0, z1⟩ := HC.out _ hy)
   | (go_at_call 60; refine (HR.out _ (HX0.out.trans hy)).mono ?_; rintro e w1 ⟨rfl, hx1⟩; replace hy := hy.trans hx1; clear hx1 z0 z1; obtain ⟨z0, z1⟩ := HC.out _ hy)
   | (go_at_call 61; refine (HY.out _ _ h1).mono ?_; rintro e w1 ⟨rfl, hx1⟩; replace hy := hy.trans hx1; clear hx1 z0 z1; obtain ⟨z0, z1⟩ := HC.out _ hy))
  go_ret2
  exact HF.out _ (HX0.out.trans hy)
/-- The first year is the one that the loop meets. -/
theorem ripe_found {b : Book} {r y size : Int} {j : Nat} (hj : j < (b.years - y).toNat) (hno : ∀ k, k < j → sumFrom (leastOf b r) y (k + 1) < size) (hs : size ≤ sumFrom (leastOf b r) y (j + 1)) : ripeOf b r y size = some j := by
 unfold ripeOf
 rw [List.find?_range_eq_some]
 refine ⟨by simpa using hs, List.mem_range.2 hj, fun k hk => ?_⟩
 simp only [Bool.not_eq_true', decide_eq_false_iff_not, Int.not_le]; exact hno k hk
theorem ripe_none {b : Book} {r y size : Int} (hno : ∀ k, k < (b.years - y).toNat → sumFrom (leastOf b r) y (k + 1) < size) : ripeOf b r y size = none := by
 unfold ripeOf
 rw [List.find?_eq_none]
 intro k hk
 simp only [decide_eq_true_eq, Int.not_le]; exact hno k (List.mem_range.1 hk)
set_option maxRecDepth 100000 in
set_option maxHeartbeats 8000000 in
theorem Ripe_yes (v : Value) (b : Book) (r y : Nat) (size : Int) (w : World) (hb : BookAt w v b) (h1 : isBookB b = true) (h2 : isRiverB b r = true) (h3 : isYearB b y = true) (h4 : inB size 0 300 = true) :
  Calls Tryz.prog 27 #[v, .int .i64 r, .int .i64 y, .int .i64 size] w (RipeRes b r y size w) := by
 have hB := bookB_of h1
 have harg : ripeArg b r y size = true := by unfold ripeArg; simp [h1, h2, h3, h4]
 have hyes : ∀ w' (j : Nat), Ext w w' → ripeOf b r y size = some j → RipeRes b r y size w (.returned (.tuple #[.int .i64 (y + j), .int .i64 0])) w' := fun w' j hx h => ⟨hx, by rw [harg, h]; rfl⟩
 have hnone : ∀ w', Ext w w' → ripeOf b r y size = none → RipeRes b r y size w (.returned (.tuple #[.int .i64 0, .int .i64 5])) w' := fun w' hx h => ⟨hx, by rw [harg, h]; rfl⟩
 have HF := Lib.hid hyes
 have HN := Lib.hid hnone
 have HB := Lib.hid (fun w1 (hx : Ext w w1) => isBook_any v b w1 (hb.ext hx))
 obtain ⟨rv, rfl, hr⟩ := hb
 have HR := Lib.hid (fun w1 (hx : Ext w w1) => isRiver_anyB rv b r w1 ⟨rv, rfl, hr.ext hx⟩)
 obtain ⟨ra, rc, rfl, r1, r2, r3⟩ := hr.open
 have hrl : r < b.rivers.length := by have := inB_iff.1 h2; omega
 have hyl : (y : Int) < b.years := by have := inB_iff.1 h3; omega
 obtain ⟨rb, ro, gv, R, rfl, hR, d0, d1, d2, hg⟩ := r3 r hrl
 have HY := Lib.hid (fun n w1 (h : isBookB b = true) => isYear_anyB (.slice (some ⟨rb, ro, none⟩) b.rivers.length rc) b n w1 ⟨_, _, _, rfl⟩ h)
 have hx0 : Ext w (w.alloc (.cells #[.int .i64 b.years, .slice (some ⟨rb, ro, none⟩) b.rivers.length rc] 24)) := (Ext.refl w).alloc _
 have HC := Lib.hid (fun W (h : Ext (w.alloc (.cells #[.int .i64 b.years, .slice (some ⟨rb, ro, none⟩) b.rivers.length rc] 24)) W) =>
  (⟨h.cell (by go_simp), h.cell (by go_simp)⟩ : W.cell? ⟨w.heap.size, 0, none⟩ = some (.int .i64 b.years) ∧ W.cell? ⟨w.heap.size, 1, none⟩ = some (.slice (some ⟨rb, ro, none⟩) b.rivers.length rc)))
 have hy := Ext.refl (w.alloc (.cells #[.int .i64 b.years, .slice (some ⟨rb, ro, none⟩) b.rivers.length rc] 24))
 have HX0 := Lib.hid hx0
 have HD := Lib.hid (fun W (h : Ext w W) => (⟨h.cell d0, h.cell d1, h.cell d2⟩ : W.cell? ⟨rb, ro + r * 3, none⟩ = some gv ∧ W.cell? ⟨rb, ro + r * 3 + 1, none⟩ = some (.int .i64 R.vary) ∧ W.cell? ⟨rb, ro + r * 3 + 2, none⟩ = some (.int .i64 R.closed)))
 obtain ⟨ga, gc, rfl, _⟩ := hg.open
 have i1 : (0 : Int) ≤ (r : Int) := by omega
 have i2 : (r : Int) < (b.rivers.length : Int) := by omega
 have HG := Lib.hid hg
 have h4' := inB_iff.1 h4
 have hmix : Tryz.prog.follows .mixedOrders = true := by kernel_rfl
 clear hr hx0 r3 d0 d1 d2 hg hyes hnone harg
 go_enter Tryz.func27, Tryz.ntmps27
 go_upto_region 3 with (first
   | (go_at_call 36; refine (in_any _ _ _ _).mono ?_; rintro e w' ⟨rfl, rfl⟩)
   | (go_at_call 46; refine (HB.out _ (HX0.out.trans hy)).mono ?_; rintro e w1 ⟨rfl, hx1⟩; replace hy := hy.trans hx1; clear hx1; obtain ⟨z0, z1⟩ := HC.out _ hy)
   | (go_at_call 60; refine (HR.out _ (HX0.out.trans hy)).mono ?_; rintro e w1 ⟨rfl, hx1⟩; replace hy := hy.trans hx1; clear hx1 z0 z1; obtain ⟨z0, z1⟩ := HC.out _ hy)
   | (go_at_call 61; refine (HY.out _ _ h1).mono ?_; rintro e w1 ⟨rfl, hx1⟩; replace hy := hy.trans hx1; clear hx1 z0 z1; obtain ⟨z0, z1⟩ := HC.out _ hy))
 obtain ⟨d0, d1, d2⟩ := HD.out _ (HX0.out.trans hy)
 go_wp2
 obtain ⟨W, hW⟩ : ∃ W, W = w1.alloc (.cells #[.slice ga R.grow.length gc, .int .i64 R.vary, .int .i64 R.closed] 125) := ⟨_, rfl⟩
 have hb0 : W.cell? ⟨w1.heap.size, 0, none⟩ = some (.slice ga R.grow.length gc) ∧ W.cell? ⟨w1.heap.size, 1, none⟩ = some (.int .i64 R.vary) ∧ W.cell? ⟨w1.heap.size, 2, none⟩ = some (.int .i64 R.closed) := by rw [hW]; exact ⟨by go_simp, by go_simp, by go_simp⟩
 have HBX := Lib.hid hb0
 have hxW : Ext (w.alloc (.cells #[.int .i64 b.years, .slice (some ⟨rb, ro, none⟩) b.rivers.length rc] 24)) W := by rw [hW]; exact hy.alloc _
 rw [← hW]
 clear hW hy z0 z1 d0 d1 d2 h1 h2 h3 h4 hb0
 go_loopw [11, 12] (fun n t wr => ∃ j : Nat, (y : Int) + j ≤ b.years ∧ t = .int .i64 ((y + j : Nat) : Int) ∧ n = .int .i64 (sumFrom (leastOf b r) y j) ∧ Ext W wr ∧ Hid (∀ k, k < j → sumFrom (leastOf b r) y (k + 1) < size)) (fun _ t _ => (b.years - intOf t).toNat)
 case atStart => exact ⟨0, by omega, rfl, rfl, Ext.refl _, fun k hk => by omega⟩
 case round =>
  obtain ⟨j, hj, rfl, rfl, hx, hno⟩ := hrel
  obtain ⟨z0, z1⟩ := HC.out _ (hxW.trans hx)
  by_cases hlt : (y : Int) + j < b.years
  ·obtain ⟨s, hs, hs1, hv, e0, _⟩ := year_range hB hR.out (y := y + j) (by omega)
   have hsb := sumFrom_bound (f := leastOf b r) (y := y) (c := 43) j (fun k hk => by
    obtain ⟨_, _, _, _, _, _, q1, q2, q3, q4⟩ := year_range hB hR.out (y := y + k) (by omega)
    rw [Int.natCast_add] at q1 q2 q3 q4
    exact ⟨q1, q2⟩)
   have hyj : ((y : Int) + (j : Int)) = ((y + j : Nat) : Int) := by rw [Int.natCast_add]
   have h0 : sumFrom (leastOf b r) y (j + 1) = sumFrom (leastOf b r) y j + max 0 (s.1 - R.vary) := by simp only [sumFrom]; rw [hyj, e0]
   have hj6 := hB.y2
   obtain ⟨m, hm⟩ : ∃ m, m = max 0 (s.1 - R.vary) := ⟨_, rfl⟩
   have hmb : 0 ≤ m ∧ m ≤ 43 := by omega
   have HM := Lib.hid (fun w1 (hx' : Ext wr w1) => (least_any (.slice ga R.grow.length gc) R (y + j) s w1 (HG.out.ext ((HX0.out.trans hxW).trans (hx.trans hx'))) hs hs1 hv))
   rw [← hm] at HM h0
   have H0 := Lib.hid h0
   have p0 := hx.cell HBX.out.1
   have p1 := hx.cell HBX.out.2.1
   have p2 := hx.cell HBX.out.2.2
   have hlt' : decide (((y : Int) + (j : Int)) < b.years) = true := by simp; omega
   clear hs e0 hyj h0 hm
   by_cases hge : size ≤ sumFrom (leastOf b r) y j + m
   ·have hfound : ripeOf b r y size = some j := ripe_found (by omega) hno.out (by rw [H0.out]; exact hge)
    have HQ := Lib.hid hfound
    have t1 : decide (size ≤ sumFrom (leastOf b r) y j + m) = true := by simpa using hge
    clear hfound
    go_wp2_with (go_at_call 62; refine (HM.out _ (Ext.refl _)).mono ?_; rintro e w2 ⟨rfl, hx2⟩)
    go_ret2
    exact HF.out _ _ ((HX0.out.trans hxW).trans (hx.trans hx2)) HQ.out
   ·have t1 : decide (size ≤ sumFrom (leastOf b r) y j + m) = false := by simpa using hge
    have hno' : ∀ k, k < j + 1 → sumFrom (leastOf b r) y (k + 1) < size := fun k hk => by
     by_cases h : k < j
     ·exact hno.out k h
     ·have : k = j := by omega
      subst this; rw [H0.out]; omega
    have HNO := Lib.hid hno'
    clear hno'
    go_wp2_with (go_at_call 62; refine (HM.out _ (Ext.refl _)).mono ?_; rintro e w2 ⟨rfl, hx2⟩)
    go_roundw
    case rel => exact ⟨j + 1, by omega, by go_num, by rw [H0.out], hx.trans hx2, HNO.out⟩
    case measure => simp [intOf]; omega
  ·have hlt' : decide (((y : Int) + (j : Int)) < b.years) = false := by simp; omega
   have hq : ripeOf b r y size = none := ripe_none (fun k hk => hno.out k (by omega))
   have HQ := Lib.hid hq
   clear hq
   go_wp2
   go_ret2
   exact HN.out _ ((HX0.out.trans hxW).trans hx) HQ.out
theorem Ripe_any (v : Value) (b : Book) (r y size : Int) (w : World) (hb : BookAt w v b) : Calls Tryz.prog 27 #[v, .int .i64 r, .int .i64 y, .int .i64 size] w (RipeRes b r y size w) := by
 by_cases h : ripeArg b r y size = true
 ·have h' := h
  unfold ripeArg at h'
  simp only [Bool.and_eq_true] at h'
  obtain ⟨⟨⟨h1, h2⟩, h3⟩, h4⟩ := h'
  have k2 := inB_iff.1 h2
  have k3 := inB_iff.1 h3
  obtain ⟨rn, rfl⟩ : ∃ n : Nat, r = n := ⟨r.toNat, by omega⟩
  obtain ⟨yn, rfl⟩ : ∃ n : Nat, y = n := ⟨y.toNat, by omega⟩
  exact Ripe_yes v b rn yn size w hb h1 h2 h3 h4
 ·exact Ripe_no v b r y size w hb (by simpa using h)
theorem Length_any (v : Value) (b : Book) (r y z : Int) (w : World) (hb : BookAt w v b) : Calls Tryz.prog 26 #[v, .int .i64 r, .int .i64 y, .int .i64 z] w (LengthRes b r y z w) := by
 by_cases h : lengthArg b r y z = true
 ·have h' := h
  unfold lengthArg at h'
  simp only [Bool.and_eq_true, decide_eq_true_eq] at h'
  obtain ⟨⟨⟨⟨h1, h2⟩, h3⟩, h4⟩, h5⟩ := h'
  have k2 := inB_iff.1 h2
  have k3 := inB_iff.1 h3
  have k4 := inB_iff.1 h4
  obtain ⟨rn, rfl⟩ : ∃ n : Nat, r = n := ⟨r.toNat, by omega⟩
  obtain ⟨yn, rfl⟩ : ∃ n : Nat, y = n := ⟨y.toNat, by omega⟩
  obtain ⟨zn, rfl⟩ : ∃ n : Nat, z = n := ⟨z.toNat, by omega⟩
  exact Length_yes v b rn yn zn w hb h1 h2 h3 h4 (by omega)
 ·exact Length_no v b r y z w hb (by simpa using h)
end Go.Proofs.YtiodjapdiflphaaGreatDoor
