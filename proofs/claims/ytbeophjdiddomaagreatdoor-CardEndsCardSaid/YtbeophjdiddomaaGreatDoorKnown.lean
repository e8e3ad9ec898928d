/- Known: both ends of what each house can have brought. -/
import Derived.Test.YtbeophjdiddomaaGreatDoorSame
import Derived.Test.YtbeophjdiddomaaGreatDoorSearchr
import Derived.Test.YtbeophjdiddomaaGreatDoorRefa
namespace Go.Proofs.YtbeophjdiddomaaGreatDoor
open Go.RowKit

/-! ### In plain Lean -/
def spanOf : List Int → Int × Int
  | [] => (0, 0)
  | x :: l => (l.foldl min x, l.foldl max x)
theorem spanOf_ends {l : List Int} (h : l ≠ []) : EndsOf (· ∈ l) (spanOf l).1 (spanOf l).2 := by
  cases l with
  | nil => exact absurd rfl h
  | cons x l => exact ends_list x l
theorem spanOf_congr {l m : List Int} (h : ∀ n, n ∈ l ↔ n ∈ m) : spanOf l = spanOf m := by
  cases l with
  | nil =>
    cases m with
    | nil => rfl
    | cons y m => have := (h y).2 (by simp); simp at this
  | cons x l =>
    have hm : m ≠ [] := List.ne_nil_of_mem ((h x).1 (by simp))
    have h1 := spanOf_ends (l := x :: l) (by simp)
    have h2 := (spanOf_ends hm).congr (Q := (· ∈ x :: l)) (fun n => (h n).symm)
    have := h1.uniq h2
    exact Prod.ext this.1 this.2
theorem minmax_span (x : Int) (l : List Int) : (minT x l l.length, maxT x l l.length) = spanOf (x :: l) := by
  unfold minT maxT spanOf; rw [List.take_of_length_le (Nat.le_refl _)]
/-- A round agrees, if the house free need not have counted right. -/
def agreeB (r : Round) (free : Int) : Bool := !(butsL r free).isEmpty
theorem agreeB_iff {r : Round} (hB : RoundB r) {free : Int} : agreeB r free = true ↔ ∃ b, buttonR r free (r.hi + 1) b := by
  unfold agreeB
  rw [Bool.not_eq_true', List.isEmpty_eq_false_iff]
  constructor
  · intro h
    obtain ⟨b, hb⟩ := List.exists_mem_of_ne_nil _ h
    exact ⟨b, (mem_butsL hB).1 hb⟩
  · rintro ⟨b, hb⟩; exact List.ne_nil_of_mem ((mem_butsL hB).2 hb)
theorem houseL_ne {r : Round} (hB : RoundB r) {free : Int} (h : agreeB r free = true) {i : Nat} (hi : i < r.houses.length) : houseL r free i ≠ [] := by
  obtain ⟨m, hm⟩ := house_of_button hB hi ((agreeB_iff hB).1 h)
  exact List.ne_nil_of_mem ((mem_houseL hB hi).2 hm)
theorem allL_ne {r : Round} (hB : RoundB r) {free : Int} (h : agreeB r free = true) : allL r free ≠ [] := by
  obtain ⟨m, hm⟩ := all_of_button hB ((agreeB_iff hB).1 h)
  exact List.ne_nil_of_mem ((mem_allL hB).2 hm)
theorem butsL_ne {r : Round} {free : Int} (h : agreeB r free = true) : butsL r free ≠ [] := by
  unfold agreeB at h; rwa [Bool.not_eq_true', List.isEmpty_eq_false_iff] at h
def knownL (r : Round) : List (Int × Int) := (List.range r.houses.length).map fun i => spanOf (houseL r (-1) i)
theorem knownL_length (r : Round) : (knownL r).length = r.houses.length := by simp [knownL]
theorem knownL_at (r : Round) {i : Nat} (hi : i < r.houses.length) : (knownL r)[i]? = some (spanOf (houseL r (-1) i)) := by
  unfold knownL; rw [List.getElem?_map, List.getElem?_range hi]; rfl
theorem flat_succ {α β : Type} (f : α → List β) {xs : List α} {k : Nat} {x : α} (h : xs[k]? = some x) : (xs.take (k + 1)).flatMap f = (xs.take k).flatMap f ++ f x := by
  rw [List.take_add_one, h]; simp
/-- The row of a house that was found, and its ends. -/
theorem FoundAt.house {r : Round} {lss : List (List Int)} {free : Int} (hB : RoundB r) (ha : agreeB r free = true) (_hl : lss.length = r.houses.length + 2)
    (hc : Col r.houses.length lss (houseR r free (r.hi + 1)) (allR r free (r.hi + 1)) (buttonR r free (r.hi + 1))) {i : Nat} (hi : i < r.houses.length) {zs : List Int} (hz : lss[i]? = some zs) :
    ∃ x l, zs = x :: l ∧ spanOf (x :: l) = spanOf (houseL r free i) := by
  obtain ⟨ys, h1, h2⟩ := hc.h i hi
  rw [hz] at h1; cases h1
  have hm : ∀ m, m ∈ zs ↔ m ∈ houseL r free i := fun m => (h2 m).trans (mem_houseL hB hi).symm
  cases zs with
  | nil =>
    have := houseL_ne hB ha hi
    obtain ⟨m, hm'⟩ := List.exists_mem_of_ne_nil _ this
    have := (hm m).2 hm'; simp at this
  | cons x l => exact ⟨x, l, rfl, spanOf_congr hm⟩

theorem info_span : (Tryz.prog.info? 23).map (fun i => (i.zero, i.size, i.bytes)) = some (some (.agg #[.int .i64 0, .int .i64 0]), 2, 16) := by kernel_rfl
theorem E_spans : Elem Tryz.prog 29 23 2 16 (.agg #[.int .i64 0, .int .i64 0]) := by
  obtain ⟨i, h1, h2, h3, h4⟩ := info_parts info_span
  exact ⟨Tryz.underlying29, ⟨i, h1, h2, h3, h4⟩, rfl, by decide⟩
/-- What Known answers. -/
def KnownRes (r : Round) (w : World) (e : Ending) (w' : World) : Prop := ∃ (v : Value) (err : Int), e = .returned (.tuple #[v, .int .i64 err]) ∧ Ext w w' ∧
  if isRoundB r = true then (if agreeB r (-1) = true then err = 0 ∧ SpansAt w' v (knownL r) else err = 7 ∧ v = .slice none 0 0) else err = 2 ∧ v = .slice none 0 0

set_option maxRecDepth 100000 in
set_option maxHeartbeats 2000000 in
theorem known_any (v : Value) (r : Round) (w : World) (hr : RoundAt w v r) :
    Calls Tryz.prog 12 #[v] w (KnownRes r w) := by
  obtain ⟨hv, rfl, hh⟩ := hr
  have hr' : RoundAt w (.agg (r.cells hv).toArray) r := ⟨hv, rfl, hh⟩
  have HA := Lib.hid (fun w1 (hx : Ext w w1) => asked_any _ r true w1 (hr'.ext hx))
  obtain ⟨a, c, rfl, _⟩ := hh.open
  unfold Round.cells at *
  clear hr' hh
  have hx0 : Ext w (w.alloc (.cells #[.int .i64 r.per, .int .i64 r.lo, .int .i64 r.hi, .int .i64 r.card, .int .i64 r.slack, .slice a r.houses.length c, .int .i64 r.all, .int .i64 r.off] 26)) := (Ext.refl w).alloc _
  cases hb : isRoundB r with
  | false =>
    have hfin : ∀ w1, Ext w w1 → KnownRes r w (.returned (.tuple #[.slice none 0 0, .int .i64 2])) w1 := fun w1 hx => ⟨_, 2, rfl, hx, by rw [hb, if_neg (by simp)]; exact ⟨rfl, rfl⟩⟩
    have HF := Lib.hid hfin
    have HB := Lib.hid hb
    clear hfin hb
    go_enter Tryz.func12, Tryz.ntmps12
    go_wp2_with (go_at_call 42; refine (HA.out _ hx0).mono ?_; rintro e w1 ⟨v1, err, rfl, hx1, hq⟩; rw [if_neg (by rw [HB.out]; simp)] at hq; obtain ⟨rfl, rfl⟩ := hq)
    go_ret2
    exact HF.out _ ((hx0.trans hx1).alloc _)
  | true =>
    have hB := roundB_of hb
    cases ha : agreeB r (-1) with
    | false =>
      have hno : ¬ ∃ m, buttonR r (-1) (r.hi + 1) m := fun h => by have := (agreeB_iff hB).2 h; rw [ha] at this; cases this
      have hfin : ∀ w1, Ext w w1 → KnownRes r w (.returned (.tuple #[.slice none 0 0, .int .i64 7])) w1 := fun w1 hx => ⟨_, 7, rfl, hx, by rw [hb, if_pos rfl, ha, if_neg (by simp)]; exact ⟨rfl, rfl⟩⟩
      have HF := Lib.hid hfin
      have HB := Lib.hid hb
      clear hfin hb ha
      go_enter Tryz.func12, Tryz.ntmps12
      go_wp2_with (go_at_call 42; refine (HA.out _ hx0).mono ?_; rintro e w1 ⟨v1, err, rfl, hx1, hq⟩; rw [if_pos ⟨HB.out, rfl⟩] at hq; obtain ⟨rfl, rfl⟩ := hq.2 hno; clear hq)
      go_ret2
      exact HF.out _ ((hx0.trans hx1).alloc _)
    | true =>
      have hyes := (agreeB_iff hB).1 ha
      have hfin : ∀ w1 v1, Ext w w1 → SpansAt w1 v1 (knownL r) → KnownRes r w (.returned (.tuple #[v1, .int .i64 0])) w1 := fun w1 v1 hx hv => ⟨_, 0, rfl, hx, by rw [hb, if_pos rfl, ha, if_pos rfl]; exact ⟨rfl, hv⟩⟩
      have HF := Lib.hid hfin
      have HB := Lib.hid hb
      have HAG := Lib.hid ha
      have h4 := hB.h2
      clear hfin hb ha
      go_enter Tryz.func12, Tryz.ntmps12
      go_wp2_with (go_at_call 42; refine (HA.out _ hx0).mono ?_; rintro e w1 ⟨v1, err, rfl, hx1, hq⟩; rw [if_pos ⟨HB.out, rfl⟩] at hq; obtain ⟨rfl, lss, hl1, hf1, hc1⟩ := hq.1 hyes; clear hq; obtain ⟨fb, a0, a1, c0, c1, xs, ys, rfl, q0, q1, q2, q3, q4⟩ := hf1.open hl1)
      have hxw := hx0.trans hx1
      have hxw2 := hxw.alloc (.cells #[.slice (some ⟨fb, 0, none⟩) r.houses.length r.houses.length, .slice a0 xs.length c0, .slice a1 ys.length c1] 82)
      have hxa := (Ext.refl w1).alloc (.cells #[.slice (some ⟨fb, 0, none⟩) r.houses.length r.houses.length, .slice a0 xs.length c0, .slice a1 ys.length c1] 82)
      have Q4 := Lib.hid q4
      have HL := Lib.hid hl1
      clear q0 q1 q2 q3 q4 hf1 hl1
      go_loopw [6, 20] (fun out i wr => ∃ k : Nat, k ≤ r.houses.length ∧ i = .int .i64 k ∧ wr.ownsRow w1.heap.size 23 2 out k (((knownL r).take k).flatMap spanCells) ∧ Ext w wr ∧ Ext w1 wr) (fun _ i _ => r.houses.length - (intOf i).toNat)
      case atStart => exact ⟨0, Nat.zero_le _, rfl, World.ownsRow_nil _ _ _ _, hxw2, hxa⟩
      case round =>
        clear hxw2 hxa
        obtain ⟨k, hk, rfl, hown, hx, hx1'⟩ := hrel
        by_cases hlt : k < r.houses.length
        · obtain ⟨u, zs, hcu, hzs, hzi⟩ := Q4.out k hlt
          obtain ⟨x, l, rfl, hsp⟩ := FoundAt.house hB HAG.out HL.out hc1 hlt hzs
          have hkn := flat_succ spanCells (knownL_at r hlt)
          rw [← hsp, ← minmax_span] at hkn
          have HKN := Lib.hid hkn
          have hcu' := hx1'.cell hcu
          have HS := Lib.hid (span_any u x l wr (hzi.ext hx1'))
          obtain ⟨ua, uc, rfl, _⟩ := hzi.open
          have x2 : decide ((k : Int) < (r.houses.length : Int)) = true := by simpa using hlt
          have hsz : k + 1 ≤ maxLen ∧ (k + 1) * 16 ≤ 140737488355328 := by unfold maxLen; omega
          have HSZ := Lib.hid hsz
          have hxs := hx1'.size
          have hxw1 := hxw.size
          clear hkn hcu hzs hsz hzi hsp
          go_wp2_with (first
            | (go_at_call 43; refine HS.out.mono ?_; rintro e w2 ⟨rfl, hx2⟩; have hbz := Nat.le_trans hxs hx2.size)
            | (at_builtin; refine wpList_push E_spans rfl _ _ rfl w1.heap.size rfl (owns_ext hown hx2) rfl rfl (by simp [Value.oneCell']) ?_ HSZ.out.1 HSZ.out.2 hbz; intro g cap w3 hown' hext _))
          go_roundw
          case rel => exact ⟨k + 1, by omega, by go_num, by rw [HKN.out]; exact hown', hext _ (hx.trans hx2) hxw1, hext _ (hx1'.trans hx2) (Nat.le_refl _)⟩
          case measure => simp [intOf]; omega
        · have hke : k = r.houses.length := by omega
          have x2 : decide ((k : Int) < (r.houses.length : Int)) = false := by simp; omega
          have hs : SpansAt wr u6 (knownL r) := by
            have := RowAt.of_owns hown
            rw [List.take_of_length_le (by rw [knownL_length]; omega)] at this
            unfold SpansAt; rw [knownL_length, ← hke]; exact this
          have HFIN := Lib.hid (HF.out wr u6 hx hs)
          clear hke hs hown
          go_wp2
          go_ret2
          exact HFIN.out
end Go.Proofs.YtbeophjdiddomaaGreatDoor

/- Wrong: the houses without which a round agrees. -/
namespace Go.Proofs.YtbeophjdiddomaaGreatDoor
open Go.RowKit

/-! ### In plain Lean -/
def wrongUp (r : Round) (k : Nat) : List Int := ((List.range k).filter fun (i : Nat) => agreeB r (i : Int)).map fun (i : Nat) => (i : Int)
def wrongL (r : Round) : List Int := wrongUp r r.houses.length
theorem wrongUp_yes {r : Round} {k : Nat} (h : agreeB r k = true) : wrongUp r (k + 1) = wrongUp r k ++ [(k : Int)] := by
  unfold wrongUp; rw [List.range_succ, List.filter_append]; simp [h]
theorem wrongUp_no {r : Round} {k : Nat} (h : agreeB r k = false) : wrongUp r (k + 1) = wrongUp r k := by
  unfold wrongUp; rw [List.range_succ, List.filter_append]; simp [h]
theorem wrongUp_len (r : Round) (k : Nat) : (wrongUp r k).length ≤ k := by
  unfold wrongUp; rw [List.length_map]
  have := List.length_filter_le (fun (i : Nat) => agreeB r i) (List.range k)
  rwa [List.length_range] at this
theorem agree_of_col {r : Round} (hB : RoundB r) {free : Int} {lss : List (List Int)} {ys : List Int} (hc : Col r.houses.length lss (houseR r free (r.hi + 1)) (allR r free (r.hi + 1)) (buttonR r free (r.hi + 1))) (hy : lss[r.houses.length + 1]? = some ys) : decide (0 < ys.length) = agreeB r free := by
  rw [Bool.eq_iff_iff, decide_eq_true_eq, col_some hc hy, agreeB_iff hB]
/-- What Wrong answers. -/
def WrongRes (r : Round) (w : World) (e : Ending) (w' : World) : Prop := ∃ (v : Value) (err : Int), e = .returned (.tuple #[v, .int .i64 err]) ∧ Ext w w' ∧
  if isRoundB r = true then (if agreeB r (-1) = true then err = 7 ∧ v = .slice none 0 0 else if wrongL r = [] then err = 5 ∧ v = .slice none 0 0 else err = 0 ∧ IntsAt w' v (wrongL r)) else err = 2 ∧ v = .slice none 0 0

/-- What a search for the house free answers, as far as it is asked whether it agrees. -/
theorem search_agree {r : Round} {v : Value} (hB : RoundB r) (free : Int) (w : World) (hr : RoundAt w v r) : Calls Tryz.prog 40 #[v, .int .i64 free] w fun e w' => ∃ (a0 a1 a2 : Option Addr) (n0 n1 n2 c0 c1 c2 : Nat), e = .returned (.agg #[.slice a0 n0 c0, .slice a1 n1 c1, .slice a2 n2 c2]) ∧ Ext w w' ∧ decide (0 < n2) = agreeB r free :=
  (search_any v r free w hr hB).mono fun e w' h => by
    obtain ⟨v2, lss, rfl, hx2, hl2, hf2, hc2⟩ := h
    obtain ⟨fb, a0, a1, c0, c1, xs, ys, rfl, q0, q1, q2, q3, q4⟩ := hf2.open hl2
    exact ⟨_, _, _, _, _, _, _, _, _, rfl, hx2, agree_of_col hB hc2 q1⟩
def AgrP (b : Bool) (w : World) (e : Ending) (w' : World) : Prop := e = .returned (.bool b) ∧ Ext w w'
set_option maxRecDepth 100000 in
set_option maxHeartbeats 2000000 in
theorem wrong_any (v : Value) (r : Round) (w : World) (hr : RoundAt w v r) :
    Calls Tryz.prog 27 #[v] w (WrongRes r w) := by
  obtain ⟨hv, rfl, hh⟩ := hr
  have hr' : RoundAt w (.agg (r.cells hv).toArray) r := ⟨hv, rfl, hh⟩
  have HR := Lib.hid (fun w1 (hx : Ext w w1) => isRound_any _ r w1 (hr'.ext hx))
  have HS := Lib.hid (fun (hB : RoundB r) free w1 (hx : Ext w w1) => search_agree hB free w1 (hr'.ext hx))
  obtain ⟨a, c, rfl, _⟩ := hh.open
  unfold Round.cells at *
  clear hr' hh
  have hx0 : Ext w (w.alloc (.cells #[.int .i64 r.per, .int .i64 r.lo, .int .i64 r.hi, .int .i64 r.card, .int .i64 r.slack, .slice a r.houses.length c, .int .i64 r.all, .int .i64 r.off] 26)) := (Ext.refl w).alloc _
  have hb0 := World.alloc_heap_new w (.cells #[.int .i64 r.per, .int .i64 r.lo, .int .i64 r.hi, .int .i64 r.card, .int .i64 r.slack, .slice a r.houses.length c, .int .i64 r.all, .int .i64 r.off] 26)
  cases hb : isRoundB r with
  | false =>
    have hfin : ∀ w1, Ext w w1 → WrongRes r w (.returned (.tuple #[.slice none 0 0, .int .i64 2])) w1 := fun w1 hx => ⟨_, 2, rfl, hx, by rw [hb, if_neg (by simp)]; exact ⟨rfl, rfl⟩⟩
    have HF := Lib.hid hfin
    rw [hb] at HR
    clear hfin hb
    go_enter Tryz.func27, Tryz.ntmps27
    go_wp2_with (go_at_call 39; refine (HR.out _ hx0).mono ?_; rintro e w1 ⟨rfl, hx1⟩)
    go_ret2
    exact HF.out _ (hx0.trans hx1)
  | true =>
    have hB := roundB_of hb
    have HBX := Lib.hid hb0
    rw [hb] at HR
    cases ha : agreeB r (-1) with
    | true =>
      have hfin : ∀ w1, Ext w w1 → WrongRes r w (.returned (.tuple #[.slice none 0 0, .int .i64 7])) w1 := fun w1 hx => ⟨_, 7, rfl, hx, by rw [hb, if_pos rfl, ha, if_pos rfl]; exact ⟨rfl, rfl⟩⟩
      have HF := Lib.hid hfin
      have HAG := Lib.hid ha
      clear hfin hb ha hb0
      go_enter Tryz.func27, Tryz.ntmps27
      go_wp2_with (first
        | (go_at_call 39; refine (HR.out _ hx0).mono ?_; rintro e w1 ⟨rfl, hx1⟩; obtain ⟨z0, z1, z2, z3, z4, z5, z6, z7⟩ := round_cells ((hx1.block (by simp)).trans HBX.out))
        | (go_at_call 40; refine (HS.out hB (-1) _ (hx0.trans hx1)).mono ?_; rintro e w2 ⟨a0, a1, a2, n0, n1, n2, c0, c1, c2, rfl, hx2, hag⟩; rw [HAG.out] at hag)
        | (go_at_call 41; refine (agrees_any _ _ _ _ _ _ _ _).mono ?_; rintro e w3 ⟨rfl, hx3⟩))
      go_ret2
      exact HF.out _ (((hx0.trans hx1).trans hx2).trans hx3)
    | false =>
      have hfin : ∀ w1 v1, Ext w w1 → IntsAt w1 v1 (wrongL r) → ∀ (h0 : wrongL r ≠ []), WrongRes r w (.returned (.tuple #[v1, .int .i64 0])) w1 := fun w1 v1 hx hv h0 => ⟨_, 0, rfl, hx, by rw [hb, if_pos rfl, ha, if_neg (by simp), if_neg h0]; exact ⟨rfl, hv⟩⟩
      have hfin0 : ∀ w1, Ext w w1 → ∀ (h0 : wrongL r = []), WrongRes r w (.returned (.tuple #[.slice none 0 0, .int .i64 5])) w1 := fun w1 hx h0 => ⟨_, 5, rfl, hx, by rw [hb, if_pos rfl, ha, if_neg (by simp), if_pos h0]; exact ⟨rfl, rfl⟩⟩
      have HF := Lib.hid hfin
      have HF0 := Lib.hid hfin0
      have HAG := Lib.hid ha
      have h4 := hB.h2
      clear hfin hfin0 hb ha hb0
      go_enter Tryz.func27, Tryz.ntmps27
      go_wp2_with (first
        | (go_at_call 39; refine (HR.out _ hx0).mono ?_; rintro e w1 ⟨rfl, hx1⟩; have hbx1 := Lib.hid ((hx1.block (by simp)).trans HBX.out); obtain ⟨z0, z1, z2, z3, z4, z5, z6, z7⟩ := round_cells hbx1.out)
        | (go_at_call 40; refine (HS.out hB (-1) _ (hx0.trans hx1)).mono ?_; rintro e w2 ⟨a0, a1, a2, n0, n1, n2, c0, c1, c2, rfl, hx2, hag⟩; rw [HAG.out] at hag)
        | (go_at_call 41; refine (agrees_any _ _ _ _ _ _ _ _).mono ?_; rintro e w3 ⟨rfl, hx3⟩; have hx13 := hx2.trans hx3; have hbx3 := Lib.hid ((hx13.block (Array.getElem?_eq_some_iff.1 hbx1.out).1).trans hbx1.out); clear z0 z1 z2 z3 z4 z5 z6 z7; obtain ⟨z0, z1, z2, z3, z4, z5, z6, z7⟩ := round_cells hbx3.out))
      have hxw := (hx0.trans hx1).trans hx13
      clear z0 z1 z2 z3 z4 z5 z6 z7 hag
      go_loopw [4, 15] (fun out i wr => ∃ k : Nat, k ≤ r.houses.length ∧ i = .int .i64 k ∧ wr.ownsRow (w.heap.size + 1) 3 1 out (wrongUp r k).length ((wrongUp r k).map (.int .i64)) ∧ Ext w wr ∧ Hid (wr.heap[w.heap.size]? = some (.cells #[.int .i64 r.per, .int .i64 r.lo, .int .i64 r.hi, .int .i64 r.card, .int .i64 r.slack, .slice a r.houses.length c, .int .i64 r.all, .int .i64 r.off] 26 (0, 0)))) (fun _ i _ => r.houses.length - (intOf i).toNat)
      case atStart => exact ⟨0, Nat.zero_le _, rfl, World.ownsRow_nil _ _ _ _, hxw, hbx3⟩
      case round =>
        clear hxw hbx3 hbx1 hx1 hx13 hx2 hx3 hx0
        obtain ⟨k, hk, rfl, hown, hx, hbx⟩ := hrel
        have hbl := (Array.getElem?_eq_some_iff.1 hbx.out).1
        by_cases hlt : k < r.houses.length
        · obtain ⟨z0, z1, z2, z3, z4, z5, z6, z7⟩ := round_cells hbx.out
          have x2 : decide ((k : Int) < (r.houses.length : Int)) = true := by simpa using hlt
          have hlen := wrongUp_len r k
          have hsz : (wrongUp r k).length + 1 ≤ maxLen ∧ ((wrongUp r k).length + 1) * 8 ≤ 140737488355328 := by unfold maxLen; omega
          have HSZ := Lib.hid hsz
          clear hsz
          cases hak : agreeB r k with
          | true =>
            have HUP := Lib.hid (wrongUp_yes hak)
            have HAK := Lib.hid hak
            clear hak
            go_wp2_with (first
              | (go_at_call 40; refine (HS.out hB k _ hx).mono ?_; rintro e w5 ⟨a0, a1, a2, n0, n1, n2, c0, c1, c2, rfl, hx5, hag⟩; rw [HAK.out] at hag)
              | (go_at_call 41; refine (agrees_any _ _ _ _ _ _ _ _).mono ?_; rintro e w6 ⟨rfl, hx6⟩; have hx56 := hx5.trans hx6; have hbz : w.heap.size + 1 ≤ w6.heap.size := by have := hx56.size; omega)
              | (at_builtin; refine wpList_push E_ints rfl _ _ rfl (w.heap.size + 1) rfl (owns_ext hown hx56) rfl rfl (by simp [Value.oneCell']) ?_ HSZ.out.1 HSZ.out.2 hbz; intro g cap w7 hown' hext hgr))
            go_roundw
            case rel =>
              refine ⟨k + 1, by omega, by go_num, ?_, hext _ (hx.trans hx56) (Nat.le_succ _), ?_⟩
              · rw [HUP.out, List.length_append, List.map_append]; exact hown'
              · exact kept_push hgr ((hx56.block hbl).trans hbx.out) (owns_block hown) (Nat.lt_succ_self _)
            case measure => simp [intOf]; omega
          | false =>
            have HUP := Lib.hid (wrongUp_no hak)
            have HAK := Lib.hid hak
            clear hak
            go_wp2_with (first
              | (go_at_call 40; refine (HS.out hB k _ hx).mono ?_; rintro e w5 ⟨a0, a1, a2, n0, n1, n2, c0, c1, c2, rfl, hx5, hag⟩; rw [HAK.out] at hag)
              | (go_at_call 41; refine (agrees_any _ _ _ _ _ _ _ _).mono ?_; rintro e w6 ⟨rfl, hx6⟩; have hx56 := hx5.trans hx6))
            go_roundw
            case rel => exact ⟨k + 1, by omega, by go_num, by rw [HUP.out]; exact owns_ext hown hx56, hx.trans hx56, (hx56.block hbl).trans hbx.out⟩
            case measure => simp [intOf]; omega
        · have hke : k = r.houses.length := by omega
          have x2 : decide ((k : Int) < (r.houses.length : Int)) = false := by simp; omega
          have hw : wrongUp r k = wrongL r := by rw [hke]; rfl
          rw [hw] at hown
          cases hL : wrongL r with
          | nil =>
            rw [hL] at hown
            obtain ⟨_, ⟨hu, _⟩ | ⟨g, cap, cur, hu, _⟩⟩ := hown
            all_goals
              subst hu
              have HFIN := Lib.hid (HF0.out wr hx hL)
              clear hke hL hw
              go_wp2
              go_ret2
              exact HFIN.out
          | cons y l =>
            rw [hL] at hown
            obtain ⟨g, cap, rfl⟩ := owns_succ hown
            have hI : IntsAt wr (.slice (some ⟨g, 0, none⟩) (l.length + 1) cap) (wrongL r) := by rw [hL]; exact IntsAt.of_owns hown
            have HFIN := Lib.hid (HF.out wr _ hx hI (by rw [hL]; simp))
            clear hke hown hL hw hI
            go_wp2
            go_ret2
            exact HFIN.out
end Go.Proofs.YtbeophjdiddomaaGreatDoor
