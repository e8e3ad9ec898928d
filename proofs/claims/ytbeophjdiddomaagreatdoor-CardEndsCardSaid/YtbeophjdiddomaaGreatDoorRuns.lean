/- What fits: plain Lean, and card.Fits where it ends early. -/
import Derived.Test.YtbeophjdiddomaaGreatDoorJoin
namespace Go.Proofs.YtbeophjdiddomaaGreatDoor
open Go.RowKit

def truthB (r : Round) (x : Truth) : Bool := decide (x.full.length = r.houses.length) && decide (x.loose.length = r.houses.length)
/-! ### What fits, in plain Lean -/
def okT (r : Round) (x : Truth) (free : Int) (i : Nat) : Bool :=
  canB r x.button (r.houses.getD i noHouse) (x.full.getD i 0) (x.loose.getD i 0) && (decide ((i : Int) = free) || countsB (r.houses.getD i noHouse) (x.full.getD i 0) (x.loose.getD i 0))
def okUp (r : Round) (x : Truth) (free : Int) (k : Nat) : Bool := (List.range k).all (okT r x free)
def sumT (r : Round) (x : Truth) : Nat → Int
  | 0 => 0
  | k + 1 => sumT r x k + nOf r (x.full.getD k 0) (x.loose.getD k 0)
def fitsB (r : Round) (x : Truth) (free : Int) : Bool := inB x.button r.lo r.hi && okUp r x free r.houses.length && inB (sumT r x r.houses.length - r.all) (-r.off) r.off
theorem okUp_succ (r : Round) (x : Truth) (free : Int) (k : Nat) : okUp r x free (k + 1) = (okUp r x free k && okT r x free k) := by
  unfold okUp; rw [List.range_succ, List.all_append]; simp
theorem okUp_bad {r : Round} {x : Truth} {free : Int} {k n : Nat} (hk : k < n) (h : okT r x free k = false) : okUp r x free n = false := by
  unfold okUp
  rw [List.all_eq_false]
  exact ⟨k, List.mem_range.2 hk, by simp [h]⟩
theorem okT_bd {r : Round} (hB : RoundB r) {x : Truth} {free : Int} {k : Nat} (hk : k < r.houses.length) (h : okT r x free k = true) : 0 ≤ nOf r (x.full.getD k 0) (x.loose.getD k 0) ∧ nOf r (x.full.getD k 0) (x.loose.getD k 0) ≤ 3000 := by
  have hh : r.houses.getD k noHouse = r.houses[k] := by rw [List.getD_eq_getElem?_getD, List.getElem?_eq_getElem hk]; rfl
  unfold okT canB at h
  rw [hh] at h
  simp only [Bool.and_eq_true, decide_eq_true_eq, inB_iff] at h
  obtain ⟨⟨⟨⟨h1, h2⟩, h3⟩, _⟩, _⟩ := h
  have hb := badHouse_iff.1 (hB.hs _ (List.getElem_mem hk))
  have hp := hB.p1
  have h5 : 0 ≤ r.per * x.full.getD k 0 := Int.mul_nonneg (by omega) h1.1
  unfold nOf at h3 ⊢
  omega
theorem sumT_bd {r : Round} (hB : RoundB r) {x : Truth} {free : Int} : ∀ {k : Nat}, k ≤ r.houses.length → okUp r x free k = true → 0 ≤ sumT r x k ∧ sumT r x k ≤ 3000 * k
  | 0, _, _ => by simp [sumT]
  | k + 1, hk, h => by
    rw [okUp_succ, Bool.and_eq_true] at h
    have h1 := sumT_bd hB (k := k) (by omega) h.1
    have h2 := okT_bd hB (by omega) h.2
    unfold sumT
    omega
/-! ### Fits of the program: where it ends early -/
def FitsRes (r : Round) (x : Truth) (w : World) (e : Ending) (w' : World) : Prop := ∃ (is : Bool) (err : Int), e = .returned (.tuple #[.bool is, .int .i64 err]) ∧ Ext w w' ∧
  if isRoundB r = true ∧ truthB r x = true then err = 0 ∧ is = fitsB r x (-1) else err = 2 ∧ is = false
abbrev boxT (x : Truth) (fa la : Option Addr) (fc lc : Nat) : Obj := .cells #[.int .i64 x.button, .slice fa x.full.length fc, .slice la x.loose.length lc] 42
set_option maxRecDepth 100000 in
set_option maxHeartbeats 2000000 in
theorem fits_bad (v xv : Value) (r : Round) (x : Truth) (w : World) (hr : RoundAt w v r) (hx : TruthAt w xv x) (hbad : ¬ (isRoundB r = true ∧ truthB r x = true)) :
    Calls Tryz.prog 15 #[v, xv] w (FitsRes r x w) := by
  obtain ⟨hv, rfl, hh⟩ := hr
  have hr' : RoundAt w (.agg (r.cells hv).toArray) r := ⟨hv, rfl, hh⟩
  obtain ⟨fv, lv, rfl, hf, hl⟩ := hx
  have HR := Lib.hid (fun w1 (hx : Ext w w1) => isRound_any _ r w1 (hr'.ext hx))
  have HT := Lib.hid (fun w1 (hx : Ext w w1) => isTruth_any _ r x.button fv lv x.full x.loose w1 (hr'.ext hx) (hf.ext hx) (hl.ext hx))
  obtain ⟨a, c, rfl, h1, h2, _⟩ := hh.open
  obtain ⟨fa, fc, rfl, f1, f2, _⟩ := hf.open
  obtain ⟨la, lc, rfl, l1, l2, _⟩ := hl.open
  unfold Round.cells at *
  have HF : Hid (∀ w1, Ext w w1 → FitsRes r x w (.returned (.tuple #[.bool false, .int .i64 2])) w1) := fun w1 hx => ⟨false, 2, rfl, hx, by rw [if_neg hbad]; exact ⟨rfl, rfl⟩⟩
  have hx0 : Ext w ((w.alloc (boxD r a c)).alloc (boxT x fa la fc lc)) := ((Ext.refl w).alloc _).alloc _
  have HBX := Lib.hid (two_new w (boxD r a c) (boxT x fa la fc lc))
  clear hr' hh hf hl
  cases hb : isRoundB r with
  | false =>
    rw [hb] at HR
    clear hb hbad
    go_enter Tryz.func15, Tryz.ntmps15
    go_wp2_with (go_at_call 39; refine (HR.out _ hx0).mono ?_; rintro e w1 ⟨rfl, hx1⟩)
    go_ret2
    exact HF.out _ (hx0.trans hx1)
  | true =>
    have ht : (decide (x.full.length = r.houses.length) && decide (x.loose.length = r.houses.length)) = false := by
      cases q : truthB r x with
      | true => exact absurd ⟨hb, q⟩ hbad
      | false => exact q
    rw [hb] at HR
    rw [ht] at HT
    clear hb hbad ht
    go_enter Tryz.func15, Tryz.ntmps15
    go_wp2_with (first
      | (go_at_call 39; refine (HR.out _ hx0).mono ?_; rintro e w1 ⟨rfl, hx1⟩; have hx01 := hx0.trans hx1; obtain ⟨z0, z1, z2, z3, z4, z5, z6, z7⟩ := round_cells ((hx1.block (by simp; omega)).trans HBX.out.1); have hbx2 := (hx1.block (by simp)).trans HBX.out.2; have y0 : w1.cell? ⟨w.heap.size + 1, 0, none⟩ = some (.int .i64 x.button) := by simp [World.cell?, hbx2]
         have y1 : w1.cell? ⟨w.heap.size + 1, 1, none⟩ = some (.slice fa x.full.length fc) := by simp [World.cell?, hbx2]
         have y2 : w1.cell? ⟨w.heap.size + 1, 2, none⟩ = some (.slice la x.loose.length lc) := by simp [World.cell?, hbx2]
         clear hbx2)
      | (go_at_call 44; refine (HT.out _ hx01).mono ?_; rintro e w2 ⟨rfl, hx2⟩))
    go_ret2
    exact HF.out _ (hx01.trans hx2)
set_option maxRecDepth 100000 in
set_option maxHeartbeats 2000000 in
theorem fits_out (v xv : Value) (r : Round) (x : Truth) (w : World) (hr : RoundAt w v r) (hx : TruthAt w xv x) (hb : isRoundB r = true) (ht : truthB r x = true) (hi : inB x.button r.lo r.hi = false) :
    Calls Tryz.prog 15 #[v, xv] w (FitsRes r x w) := by
  obtain ⟨hv, rfl, hh⟩ := hr
  have hr' : RoundAt w (.agg (r.cells hv).toArray) r := ⟨hv, rfl, hh⟩
  obtain ⟨fv, lv, rfl, hf, hl⟩ := hx
  have HR := Lib.hid (fun w1 (hx : Ext w w1) => hb ▸ isRound_any _ r w1 (hr'.ext hx))
  have ht' : (decide (x.full.length = r.houses.length) && decide (x.loose.length = r.houses.length)) = true := ht
  have HT := Lib.hid (fun w1 (hx : Ext w w1) => ht' ▸ isTruth_any _ r x.button fv lv x.full x.loose w1 (hr'.ext hx) (hf.ext hx) (hl.ext hx))
  have HI := Lib.hid (fun w1 => hi ▸ in_any x.button r.lo r.hi w1)
  obtain ⟨a, c, rfl, h1, h2, _⟩ := hh.open
  obtain ⟨fa, fc, rfl, f1, f2, _⟩ := hf.open
  obtain ⟨la, lc, rfl, l1, l2, _⟩ := hl.open
  unfold Round.cells at *
  have HF : Hid (∀ w1, Ext w w1 → FitsRes r x w (.returned (.tuple #[.bool false, .int .i64 0])) w1) := fun w1 hx => ⟨false, 0, rfl, hx, by rw [if_pos ⟨hb, ht⟩]; exact ⟨rfl, by unfold fitsB; rw [hi]; rfl⟩⟩
  have hx0 : Ext w ((w.alloc (boxD r a c)).alloc (boxT x fa la fc lc)) := ((Ext.refl w).alloc _).alloc _
  have HB := Lib.hid (fun W (h : Ext ((w.alloc (boxD r a c)).alloc (boxT x fa la fc lc)) W) => And.intro (round_cells ((h.block (by simp; omega)).trans (two_new w (boxD r a c) (boxT x fa la fc lc)).1)) (show W.heap[w.heap.size + 1]? = some (boxT x fa la fc lc) from (h.block (by simp)).trans (two_new w (boxD r a c) (boxT x fa la fc lc)).2))
  have HY := Lib.hid (fun (W : World) (h : W.heap[w.heap.size + 1]? = some (boxT x fa la fc lc)) => show W.cell? ⟨w.heap.size + 1, 0, none⟩ = some (.int .i64 x.button) ∧ W.cell? ⟨w.heap.size + 1, 1, none⟩ = some (.slice fa x.full.length fc) ∧ W.cell? ⟨w.heap.size + 1, 2, none⟩ = some (.slice la x.loose.length lc) by simp [World.cell?, h])
  clear hr' hh hf hl hb ht ht' hi
  go_enter Tryz.func15, Tryz.ntmps15
  go_wp2_with (first
    | (go_at_call 39; refine (HR.out _ hx0).mono ?_; rintro e w1 ⟨rfl, hx1⟩; have hx01 := hx0.trans hx1; obtain ⟨⟨z0, z1, z2, z3, z4, z5, z6, z7⟩, hbx⟩ := HB.out _ hx1; obtain ⟨y0, y1, y2⟩ := HY.out _ hbx; clear hbx)
    | (go_at_call 44; refine (HT.out _ hx01).mono ?_; rintro e w2 ⟨rfl, hx2⟩; have hx02 := hx01.trans hx2; clear z0 z1 z2 z3 z4 z5 z6 z7 y0 y1 y2; obtain ⟨⟨z0, z1, z2, z3, z4, z5, z6, z7⟩, hbx⟩ := HB.out _ (hx1.trans hx2); obtain ⟨y0, y1, y2⟩ := HY.out _ hbx; clear hbx)
    | (go_at_call 45; refine (HI.out _).mono ?_; rintro e w' ⟨rfl, rfl⟩))
  go_ret2
  exact HF.out _ hx02
end Go.Proofs.YtbeophjdiddomaaGreatDoor
