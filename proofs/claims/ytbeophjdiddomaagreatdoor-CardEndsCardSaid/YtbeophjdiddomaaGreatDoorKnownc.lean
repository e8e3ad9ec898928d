/- SamePlan, and the law's 'known': rows of the document's examples. -/
import Derived.Test.YtbeophjdiddomaaGreatDoorLaw
namespace Go.Proofs.YtbeophjdiddomaaGreatDoor
open Go.RowKit

set_option maxRecDepth 100000 in
set_option maxHeartbeats 2000000 in
theorem samePlan_any (va vb : Value) (xs ys : List (List Int)) (w : World) (ha : RowsAt w va xs) (hb : RowsAt w vb ys) :
    Calls Tryz.prog 38 #[va, vb] w fun e w' => e = .returned (.bool (decide (xs = ys))) ∧ Ext w w' := by
  obtain ⟨a, c, rfl, h1, h2, h3⟩ := ha.open
  obtain ⟨a', c', rfl, h1', h2', h3'⟩ := hb.open
  have hmix : Tryz.prog.follows .mixedOrders = true := by kernel_rfl
  by_cases hl : xs.length = ys.length
  · have t0 : (xs.length == ys.length) = true := by simpa using hl
    have t1 : ((xs.length : Int) != (ys.length : Int)) = false := by simp [hl]
    have HL := Lib.hid hl
    have H3 := Lib.hid h3
    have H3' := Lib.hid h3'
    clear hl h3 h3' ha hb
    go_enter Tryz.func38, Tryz.ntmps38
    go_wp2
    go_loopw [5] (fun i wr => ∃ k : Nat, k ≤ xs.length ∧ i = .int .i64 k ∧ Hid (xs.take k = ys.take k) ∧ Ext w wr) (fun i _ => xs.length - (intOf i).toNat)
    case atStart => exact ⟨0, Nat.zero_le _, rfl, by simp [Hid], Ext.refl _⟩
    case round =>
      obtain ⟨k, hk, rfl, hE, hx⟩ := hrel
      by_cases hlt : k < xs.length
      · obtain ⟨b, o, u, x, rfl, hxk, hc, hux⟩ := H3.out k hlt
        obtain ⟨b', o', u', y, rfl, hyk, hc', huy⟩ := H3'.out k (by rw [← HL.out]; exact hlt)
        have hlt' : k < ys.length := by rw [← HL.out]; exact hlt
        obtain ⟨ua, uc, rfl, _⟩ := hux.open
        obtain ⟨ua', uc', rfl, _⟩ := huy.open
        have d0 := hx.cell hc
        have d1 := hx.cell hc'
        have x2 : decide ((k : Int) < (xs.length : Int)) = true := by simpa using hlt
        have x3 : decide ((k : Int) < (ys.length : Int)) = true := by simpa using hlt'
        have x4 : (k : Int) < (xs.length : Int) := by omega
        have x5 : (k : Int) < (ys.length : Int) := by omega
        have HS := Lib.hid (fun w1 (hx : Ext w w1) => same_any _ _ x y w1 (hux.ext hx) (huy.ext hx))
        clear hc hc' hux huy
        cases hxy : decide (x = y) with
        | true =>
          have hs := Lib.hid (take_eq_succ hE.out hxk.out hyk.out (of_decide_eq_true hxy))
          rw [hxy] at HS
          clear hxy
          go_upto_region 6 with fail
          go_region_held3 (fun w' => w'.cell? ⟨b, o + k, none⟩ = some (.slice ua x.length uc) ∧ w'.cell? ⟨b', o' + k, none⟩ = some (.slice ua' y.length uc')) (first | go_keep | exact ⟨hx1.cell (by go_simp), hx1.cell (by go_simp)⟩)
            (first
              | (go_at_call 37; refine (HS.out _ hx.drew).mono ?_; rintro e w1 ⟨rfl, hx1⟩))
          go_wp2
          exact ⟨⟨k + 1, by omega, by go_num, hs.out, hx.drew.trans hx1⟩, by simp [intOf]; omega⟩
        | false =>
          have hne : xs ≠ ys := ne_of_at hxk.out hyk.out (of_decide_eq_false hxy)
          have hd : decide (xs = ys) = false := by simpa using hne
          have HD := Lib.hid hd
          rw [hxy] at HS
          clear hxy hne hd
          go_upto_region 6 with fail
          go_region_held3 (fun w' => w'.cell? ⟨b, o + k, none⟩ = some (.slice ua x.length uc) ∧ w'.cell? ⟨b', o' + k, none⟩ = some (.slice ua' y.length uc')) (first | go_keep | exact ⟨hx1.cell (by go_simp), hx1.cell (by go_simp)⟩)
            (first
              | (go_at_call 37; refine (HS.out _ hx.drew).mono ?_; rintro e w1 ⟨rfl, hx1⟩))
          go_wp2
          go_ret
          exact ⟨by rw [HD.out]; rfl, hx.drew.trans hx1⟩
      · have hke : k = xs.length := by omega
        have he : xs = ys := by
          have := hE.out
          rwa [List.take_of_length_le (by omega), List.take_of_length_le (by have := HL.out; omega)] at this
        have hd : decide (xs = ys) = true := by simpa using he
        have x2 : decide ((k : Int) < (xs.length : Int)) = false := by simp; omega
        have HD := Lib.hid hd
        clear he hd hke
        go_wp2
        go_ret
        exact ⟨by rw [HD.out]; rfl, hx⟩
  · have hne : xs ≠ ys := fun e => hl (by rw [e])
    have hd : decide (xs = ys) = false := by simpa using hne
    have t0 : (xs.length == ys.length) = false := by simpa using hl
    have t1 : ((xs.length : Int) == (ys.length : Int)) = false := by rw [beq_eq_false_iff_ne]; omega
    have t2 : (xs.length != ys.length) = true := by simpa using hl
    have t3 : ((xs.length : Int) != (ys.length : Int)) = true := by rw [bne_iff_ne]; omega
    rw [hd]
    clear hne hd hl h3 h3' ha hb
    go_enter Tryz.func38, Tryz.ntmps38
    go_wp2
    go_ret
    exact ⟨rfl, Ext.refl _⟩

/-! ### Contracts at the examples, in the walk's own form -/
theorem k_R (w : World) : Calls Tryz.prog 25 #[] w fun e w' => ∃ hb, e = .returned (.agg #[.int .i64 12, .int .i64 2, .int .i64 3, .int .i64 5, .int .i64 4, .slice (some ⟨hb, 0, none⟩) 2 2, .int .i64 100, .int .i64 0]) ∧ Ext w w' ∧ RoundAt w' (.agg #[.int .i64 12, .int .i64 2, .int .i64 3, .int .i64 5, .int .i64 4, .slice (some ⟨hb, 0, none⟩) 2 2, .int .i64 100, .int .i64 0]) rR :=
  (lR_any w).mono fun e w' h => by obtain ⟨hb, h1, h2, _, h4⟩ := h; exact ⟨hb, h1, h2, round_of_cells h4⟩
theorem k_Q (w : World) : Calls Tryz.prog 26 #[] w fun e w' => ∃ hb, e = .returned (.agg #[.int .i64 12, .int .i64 2, .int .i64 3, .int .i64 5, .int .i64 4, .slice (some ⟨hb, 0, none⟩) 2 2, .int .i64 91, .int .i64 0]) ∧ Ext w w' ∧ RoundAt w' (.agg #[.int .i64 12, .int .i64 2, .int .i64 3, .int .i64 5, .int .i64 4, .slice (some ⟨hb, 0, none⟩) 2 2, .int .i64 91, .int .i64 0]) rQ :=
  (lQ_any w).mono fun e w' h => by obtain ⟨hb, h1, h2, _, h4⟩ := h; exact ⟨hb, h1, h2, round_of_cells h4⟩
theorem k_C (w : World) : Calls Tryz.prog 32 #[] w fun e w' => ∃ (a b : Option Addr) (n m c d : Nat), e = .returned (.agg #[.slice a n c, .int .i64 8, .slice b m d]) ∧ Ext w w' ∧ RoadsAt w' (.agg #[.slice a n c, .int .i64 8, .slice b m d]) cC :=
  (lC_any w).mono fun e w' h => by
    obtain ⟨v, h1, h2, lv, fv, rfl, h4, h5⟩ := h
    obtain ⟨a, c, rfl, _⟩ := h4.open
    obtain ⟨b, d, rfl, _⟩ := h5.open
    exact ⟨_, _, _, _, _, _, h1, h2, _, _, rfl, h4, h5⟩
theorem k_K (w : World) : Calls Tryz.prog 35 #[] w fun e w' => ∃ (a : Option Addr) (c : Nat), e = .returned (.slice a 3 c) ∧ Ext w w' ∧ KindsAt w' (.slice a 3 c) kK :=
  (lK_any w).mono fun e w' h => by
    obtain ⟨v, h1, h2, h3⟩ := h
    obtain ⟨a, c, rfl, _⟩ := h3.open
    exact ⟨_, _, h1, h2, h3⟩
theorem k_Known (v : Value) (w : World) (hr : RoundAt w v rR) : Calls Tryz.prog 12 #[v] w fun e w' => ∃ (a : Option Addr) (c : Nat), e = .returned (.tuple #[.slice a 2 c, .int .i64 0]) ∧ Ext w w' ∧ SpansAt w' (.slice a 2 c) [(54, 56), (44, 46)] :=
  (known_any v rR w hr).mono fun e w' h => by
    obtain ⟨v1, err, h1, h2, h3⟩ := h
    rw [if_pos ev_R, if_pos ev_agR, ev_known] at h3
    obtain ⟨rfl, h4⟩ := h3
    obtain ⟨a, c, rfl, _⟩ := h4.open
    exact ⟨a, c, h1, h2, h4⟩
theorem k_Agree (v : Value) (w : World) (hr : RoundAt w v rQ) : Calls Tryz.prog 11 #[v] w fun e w' => e = .returned (.tuple #[.bool false, .int .i64 0]) ∧ Ext w w' :=
  (agree_any v rQ w hr).mono fun e w' h => by
    obtain ⟨b, err, h1, h2, h3⟩ := h
    rw [if_pos ev_Q] at h3
    obtain ⟨rfl, h4⟩ := h3
    have hb : b = false := by
      cases b with
      | false => rfl
      | true => have := (agreeB_iff (roundB_of ev_Q)).2 (h4.1 rfl); rw [ev_agQ] at this; cases this
    subst hb
    exact ⟨h1, h2⟩
theorem k_Wrong (v : Value) (w : World) (hr : RoundAt w v rQ) : Calls Tryz.prog 27 #[v] w fun e w' => ∃ (a : Option Addr) (c : Nat), e = .returned (.tuple #[.slice a 1 c, .int .i64 0]) ∧ Ext w w' ∧ IntsAt w' (.slice a 1 c) [0] :=
  (wrong_any v rQ w hr).mono fun e w' h => by
    obtain ⟨v1, err, h1, h2, h3⟩ := h
    rw [if_pos ev_Q, if_neg (by rw [ev_agQ]; simp), ev_wrong, if_neg (by simp)] at h3
    obtain ⟨rfl, h4⟩ := h3
    obtain ⟨a, c, rfl, _⟩ := h4.open
    exact ⟨a, c, h1, h2, h4⟩
theorem k_Mends (v : Value) (w : World) (hr : RoundAt w v rQ) : Calls Tryz.prog 28 #[v, .int .i64 0] w fun e w' => e = .returned (.tuple #[.agg #[.int .i64 45, .int .i64 46], .int .i64 0]) ∧ Ext w w' :=
  (mends_any v rQ 0 w hr).mono fun e w' h => by
    obtain ⟨q, err, h1, h2, h3⟩ := h
    rw [if_pos ⟨ev_Q, by decide⟩, if_pos ev_agQ0] at h3
    obtain ⟨rfl, h4⟩ := h3
    rw [show (0 : Int).toNat = 0 from rfl, ev_mends] at h4
    subst h4
    exact ⟨h1, h2⟩
theorem k_Due (v kv : Value) (w : World) (hr : RoundAt w v rR) (hk : IntsAt w kv [89, 99]) : Calls Tryz.prog 29 #[v, .int .i64 10, kv] w fun e w' => ∃ (a : Option Addr) (c : Nat), e = .returned (.tuple #[.slice a 2 c, .int .i64 0]) ∧ Ext w w' ∧ SpansAt w' (.slice a 2 c) [(0, 10), (0, 10)] :=
  (due_ok v kv rR 10 [89, 99] w hr hk ev_kept).mono fun e w' h => by
    obtain ⟨v1, err, h1, h2, h3⟩ := h
    rw [if_pos ⟨ev_R, ev_kept⟩, if_pos ev_agR, ev_due] at h3
    obtain ⟨rfl, h4⟩ := h3
    obtain ⟨a, c, rfl, _⟩ := h4.open
    exact ⟨a, c, h1, h2, h4⟩
theorem k_Tour (v hv : Value) (w : World) (hr : RoadsAt w v cC) (hk : IntsAt w hv [1, 2]) : Calls Tryz.prog 31 #[v, hv] w fun e w' => ∃ (a : Option Addr) (c : Nat), e = .returned (.tuple #[.slice a 2 c, .int .i64 14, .int .i64 0]) ∧ Ext w w' ∧ IntsAt w' (.slice a 2 c) [1, 2] :=
  (tour_any v hv cC [1, 2] w hr hk (by decide) (fun _ _ => ev_loads)).mono fun e w' h => by
    obtain ⟨nv, d, err, h1, h2, h3⟩ := h
    rw [if_neg (by rw [ev_roads, ev_stops]; simp)] at h3
    obtain ⟨rfl, h4⟩ := h3
    rw [ev_tour] at h4
    obtain ⟨rfl, h5⟩ := h4
    rw [ev_tourL] at h1
    obtain ⟨a, c, rfl, _⟩ := h5.open
    exact ⟨a, c, h1, h2, h5⟩
theorem k_Plan (v : Value) (w : World) (hr : RoadsAt w v cC) : Calls Tryz.prog 33 #[v] w fun e w' => ∃ (a : Option Addr) (c : Nat), e = .returned (.tuple #[.slice a 2 c, .int .i64 22, .int .i64 0]) ∧ Ext w w' ∧ RowsAt w' (.slice a 2 c) [[1], [2, 3]] :=
  (plan_any v cC w hr).mono fun e w' h => by
    obtain ⟨nv, d, err, h1, h2, h3⟩ := h
    rw [if_neg (by rw [ev_roads]; simp), if_neg ev_max] at h3
    obtain ⟨rfl, h4⟩ := h3
    rw [ev_plan] at h4
    obtain ⟨rfl, h5⟩ := h4
    rw [ev_planL] at h1
    obtain ⟨a, c, rfl, _⟩ := h5.open
    exact ⟨a, c, h1, h2, h5⟩
theorem k_Fill (v : Value) (w : World) (hr : KindsAt w v kK) : Calls Tryz.prog 34 #[v, .int .i64 53] w fun e w' => ∃ (a : Option Addr) (c : Nat), e = .returned (.tuple #[.slice a 3 c, .int .i64 3, .int .i64 0]) ∧ Ext w w' ∧ IntsAt w' (.slice a 3 c) [2, 0, 1] :=
  (fill_any v kK 53 w hr).mono fun e w' h => by
    obtain ⟨nv, d, err, h1, h2, h3⟩ := h
    rw [if_pos ⟨ev_kinds, by decide⟩, ev_fill] at h3
    obtain ⟨h4, rfl, rfl⟩ := h3
    obtain ⟨a, c, rfl, _⟩ := h4.open
    exact ⟨a, c, h1, h2, h4⟩
theorem k_Print (v : Value) (w : World) (hr : RoundAt w v rR) (ht : TabOk w) : Calls Tryz.prog 18 #[v] w fun e w' => e = .returned (.tuple #[strV (textT rR), .int .i64 0]) ∧ Ext w w' :=
  (print_any v rR w hr ht).mono fun e w' h => by
    obtain ⟨h1, h2⟩ := h
    rw [if_pos ev_R, if_pos ev_R] at h1
    exact ⟨h1, h2⟩
end Go.Proofs.YtbeophjdiddomaaGreatDoor

/- The law's 'known' is true. -/
namespace Go.Proofs.YtbeophjdiddomaaGreatDoor
open Go.RowKit

theorem k_Pay (v : Value) (w : World) (hk : IntsAt w v [50, 94, 50]) : Calls Tryz.prog 30 #[.int .i64 10, .int .i64 100, v] w fun e w' => ∃ (a : Option Addr) (c : Nat), e = .returned (.tuple #[.slice a 3 c, .int .i64 6, .int .i64 0]) ∧ Ext w w' ∧ IntsAt w' (.slice a 3 c) [10, 0, 10] :=
  (pay_any 10 100 v [50, 94, 50] w hk).mono fun e w' h => by
    obtain ⟨v1, h1, h2, h3⟩ := h
    rw [if_pos ev_payOk, if_pos ev_payOk, ev_pay] at h1
    rw [if_pos ev_payOk, ev_pay] at h2
    obtain ⟨a, c, rfl, _⟩ := h2.open
    exact ⟨a, c, h1, h3, h2⟩
theorem kints_new (W : World) (cs : Array Value) (n : Nat) (xs : List Int) (hn : n ≤ maxLen) (h : cs.toList = xs.map (.int .i64)) (hl : xs.length = n) : IntsAt (W.alloc (.cells cs 3)) (.slice (some ⟨W.heap.size, 0, none⟩) n n) xs := by
  have := RowAt.new W cs 3 n n (Nat.le_refl _) hn
  unfold IntsAt; rw [hl, ← h]; exact this
theorem three_le : 3 ≤ maxLen := by unfold maxLen; omega
theorem two_le : 2 ≤ maxLen := by unfold maxLen; omega
theorem spans_new (W : World) (cs : Array Value) (n : Nat) (ks : List (Int × Int)) (hn : n ≤ maxLen) (h : cs.toList = ks.flatMap spanCells) (hl : ks.length = n) : SpansAt (W.alloc (.cells cs 23)) (.slice (some ⟨W.heap.size, 0, none⟩) n n) ks := by
  have := RowAt.new W cs 23 n n (Nat.le_refl _) hn
  unfold SpansAt; rw [hl, ← h]; exact this
theorem sameSpans_yes (va vb : Value) (xs : List (Int × Int)) (w : World) (ha : SpansAt w va xs) (hb : SpansAt w vb xs) : Calls Tryz.prog 17 #[va, vb] w fun e w' => e = .returned (.bool true) ∧ Ext w w' :=
  (sameSpans_any va vb xs xs w ha hb).mono fun e w' h => by rw [decide_eq_true (rfl : xs = xs)] at h; exact h
theorem same_yes (va vb : Value) (xs : List Int) (w : World) (ha : IntsAt w va xs) (hb : IntsAt w vb xs) : Calls Tryz.prog 37 #[va, vb] w fun e w' => e = .returned (.bool true) ∧ Ext w w' :=
  (same_any va vb xs xs w ha hb).mono fun e w' h => by rw [decide_eq_true (rfl : xs = xs)] at h; exact h
theorem samePlan_yes (va vb : Value) (xs : List (List Int)) (w : World) (ha : RowsAt w va xs) (hb : RowsAt w vb xs) : Calls Tryz.prog 38 #[va, vb] w fun e w' => e = .returned (.bool true) ∧ Ext w w' :=
  (samePlan_any va vb xs xs w ha hb).mono fun e w' h => by rw [decide_eq_true (rfl : xs = xs)] at h; exact h
theorem rows_new (W : World) : RowsAt (((W.alloc (.cells #[.int .i64 1] 3)).alloc (.cells #[.int .i64 2, .int .i64 3] 3)).alloc (.cells #[.slice (some ⟨W.heap.size, 0, none⟩) 1 1, .slice (some ⟨W.heap.size + 1, 0, none⟩) 2 2] 33)) (.slice (some ⟨W.heap.size + 1 + 1, 0, none⟩) 2 2) [[1], [2, 3]] := by
  have h1 : IntsAt (W.alloc (.cells #[.int .i64 1] 3)) (.slice (some ⟨W.heap.size, 0, none⟩) 1 1) [1] := kints_new W _ 1 [1] one_le_maxLen rfl rfl
  have h2 : IntsAt ((W.alloc (.cells #[.int .i64 1] 3)).alloc (.cells #[.int .i64 2, .int .i64 3] 3)) (.slice (some ⟨W.heap.size + 1, 0, none⟩) 2 2) [2, 3] := by
    have := kints_new (W.alloc (.cells #[.int .i64 1] 3)) #[.int .i64 2, .int .i64 3] 2 [2, 3] two_le rfl rfl
    rwa [World.size_alloc] at this
  have h3 : RowAt (((W.alloc (.cells #[.int .i64 1] 3)).alloc (.cells #[.int .i64 2, .int .i64 3] 3)).alloc (.cells #[.slice (some ⟨W.heap.size, 0, none⟩) 1 1, .slice (some ⟨W.heap.size + 1, 0, none⟩) 2 2] 33)) (.slice (some ⟨W.heap.size + 1 + 1, 0, none⟩) 2 2) 2 [.slice (some ⟨W.heap.size, 0, none⟩) 1 1, .slice (some ⟨W.heap.size + 1, 0, none⟩) 2 2] := by
    have := RowAt.new ((W.alloc (.cells #[.int .i64 1] 3)).alloc (.cells #[.int .i64 2, .int .i64 3] 3)) #[.slice (some ⟨W.heap.size, 0, none⟩) 1 1, .slice (some ⟨W.heap.size + 1, 0, none⟩) 2 2] 33 2 2 (Nat.le_refl _) two_le
    rwa [World.size_alloc, World.size_alloc] at this
  refine ⟨_, rfl, h3, fun i x xs hx hxs => ?_⟩
  match i, hx, hxs with
  | 0, hx, hxs => cases hx; cases hxs; exact (h1.ext ((Ext.refl _).alloc _)).ext ((Ext.refl _).alloc _)
  | 1, hx, hxs => cases hx; cases hxs; exact h2.ext ((Ext.refl _).alloc _)
  | i + 2, hx, hxs => simp at hx
theorem k_text : textT rR = [114, 111, 117, 110, 100, 32, 49, 50, 32, 50, 10, 119, 101, 105, 103, 104, 32, 50, 32, 51, 32, 53, 32, 52, 10, 104, 111, 117, 115, 101, 32, 54, 48, 32, 53, 32, 52, 32, 55, 32, 49, 32, 49, 56, 53, 10, 104, 111, 117, 115, 101, 32, 53, 48, 32, 52, 32, 51, 32, 57, 32, 49, 32, 49, 53, 48, 10, 97, 108, 108, 32, 49, 48, 48, 32, 48, 10, 101, 110, 100, 32, 48, 50, 57, 10] := ev_text
set_option maxRecDepth 100000 in
set_option maxHeartbeats 8000000 in
theorem lknown_any (w : World) (ht : TabOk w) : Calls Tryz.prog 9 #[] w fun e w' => e = .returned (.bool true) ∧ Ext w w' := by
  have hmix : Tryz.prog.follows .mixedOrders = true := by kernel_rfl
  have HT := Lib.hid ht
  clear ht
  go_enter Tryz.func9, Tryz.ntmps9
  go_wp2_with fail
  refine (k_R _).mono ?_
  rintro e w1 ⟨b1, rfl, hx1, hr1⟩
  go_wp2_with fail
  refine (k_Known _ _ hr1).mono ?_
  rintro e w2 ⟨ka, kc, rfl, hx2, hk⟩
  have HK := Lib.hid hk
  clear hr1 hk
  go_wp2_with fail
  refine (k_Q _).mono ?_
  rintro e w3 ⟨b3, rfl, hx3, hr3⟩
  go_wp2_with fail
  refine (k_Agree _ _ hr3).mono ?_
  rintro e w4 ⟨rfl, hx4⟩
  clear hr3
  go_wp2_with fail
  refine (k_Q _).mono ?_
  rintro e w5 ⟨b5, rfl, hx5, hr5⟩
  go_wp2_with fail
  refine (k_Wrong _ _ hr5).mono ?_
  rintro e w6 ⟨wa, wc, rfl, hx6, hw⟩
  have HW := Lib.hid hw
  clear hr5 hw
  go_wp2_with fail
  refine (k_Q _).mono ?_
  rintro e w7 ⟨b7, rfl, hx7, hr7⟩
  go_wp2_with fail
  refine (k_Mends _ _ hr7).mono ?_
  rintro e w8 ⟨rfl, hx8⟩
  clear hr7
  have HM := Lib.hid (World.alloc_heap_new w8 (.cells #[.int .i64 45, .int .i64 46] 23))
  go_wp2_with fail
  refine (k_R _).mono ?_
  rintro e w9 ⟨b9, rfl, hx9, hr9⟩
  have HR9 := Lib.hid (hr9.ext ((Ext.refl w9).alloc (.cells #[.int .i64 89, .int .i64 99] 3)))
  clear hr9
  go_wp2_with fail
  refine (k_Due _ _ _ HR9.out (kints_new _ _ 2 [89, 99] (by have := three_le; omega) rfl rfl)).mono ?_
  rintro e w10 ⟨da, dc, rfl, hx10, hd⟩
  have HD := Lib.hid hd
  clear hd
  go_wp2_with fail
  refine (k_Pay _ _ (kints_new _ _ 3 [50, 94, 50] three_le rfl rfl)).mono ?_
  rintro e w11 ⟨pa, pc, rfl, hx11, hp⟩
  have HP := Lib.hid hp
  clear hp
  go_wp2_with fail
  refine (k_C _).mono ?_
  rintro e w12 ⟨ca1, ca2, cn1, cn2, cc1, cc2, rfl, hx12, hc12⟩
  have HC12 := Lib.hid (hc12.ext ((Ext.refl w12).alloc (.cells #[.int .i64 1, .int .i64 2] 3)))
  clear hc12
  go_wp2_with fail
  refine (k_Tour _ _ _ HC12.out (kints_new _ _ 2 [1, 2] (by have := three_le; omega) rfl rfl)).mono ?_
  rintro e w13 ⟨ta, tc, rfl, hx13, htr⟩
  have HTR := Lib.hid htr
  clear htr
  go_wp2_with fail
  refine (k_C _).mono ?_
  rintro e w14 ⟨ca3, ca4, cn3, cn4, cc3, cc4, rfl, hx14, hc14⟩
  have HC14 := Lib.hid hc14
  clear hc14
  go_wp2_with fail
  refine (k_Plan _ _ HC14.out).mono ?_
  rintro e w15 ⟨la, lc, rfl, hx15, hl⟩
  have HL := Lib.hid hl
  clear hl
  go_wp2_with fail
  refine (k_K _).mono ?_
  rintro e w16 ⟨xa, xc, rfl, hx16, hk16⟩
  have HK16 := Lib.hid hk16
  clear hk16
  go_wp2_with fail
  refine (k_Fill _ _ HK16.out).mono ?_
  rintro e w17 ⟨fa, fc, rfl, hx17, hf⟩
  have HF := Lib.hid hf
  clear hf
  go_wp2_with fail
  refine (k_R _).mono ?_
  rintro e w18 ⟨b18, rfl, hx18, hr18⟩
  have HR18 := Lib.hid hr18
  clear hr18
  have e2 := hx1.trans hx2
  have e4 := (e2.trans hx3).trans hx4
  have e6 := (e4.trans hx5).trans hx6
  have e8 := (e6.trans hx7).trans hx8
  have e9 := (e8.alloc _).trans hx9
  have e10 := (e9.alloc _).trans hx10
  have e11 := (e10.alloc _).trans hx11
  have e12 := e11.trans hx12
  have e13 := (e12.alloc _).trans hx13
  have e15 := (e13.trans hx14).trans hx15
  have e18 := ((e15.trans hx16).trans hx17).trans hx18
  clear e2 e4 e6 e8 e9 e10 e11 e12 e13 e15
  go_wp2_with fail
  have hpr := k_Print _ _ HR18.out (HT.out.ext e18)
  rw [k_text] at hpr
  refine hpr.mono ?_
  rintro e w19 ⟨rfl, hx19⟩
  have e19 := e18.trans hx19
  have g17 := hx18.trans hx19
  have g16 := hx17.trans g17
  have g15 := hx16.trans g16
  have g14 := hx15.trans g15
  have g13 := hx14.trans g14
  have g12 := ((Ext.refl w12).alloc _).trans (hx13.trans g13)
  have g11 := hx12.trans g12
  have g10 := ((Ext.refl w10).alloc _).trans (hx11.trans g11)
  have g9 := ((Ext.refl w9).alloc _).trans (hx10.trans g10)
  have g8a := hx9.trans g9
  have g8 := ((Ext.refl w8).alloc _).trans g8a
  have g6 := (hx7.trans hx8).trans g8
  have g2 := ((hx3.trans hx4).trans (hx5.trans hx6)).trans g6
  have HK2 := Lib.hid (fun W (h : Ext w19 W) => HK.out.ext (g2.trans h))
  have HW2 := Lib.hid (fun W (h : Ext w19 W) => HW.out.ext (g6.trans h))
  have HD2 := Lib.hid (fun W (h : Ext w19 W) => HD.out.ext (g10.trans h))
  have HP2 := Lib.hid (fun W (h : Ext w19 W) => HP.out.ext (g11.trans h))
  have HTR2 := Lib.hid (fun W (h : Ext w19 W) => HTR.out.ext (g13.trans h))
  have HL2 := Lib.hid (fun W (h : Ext w19 W) => HL.out.ext (g15.trans h))
  have HF2 := Lib.hid (fun W (h : Ext w19 W) => HF.out.ext (g17.trans h))
  have hbm := (g8a.block (Array.getElem?_eq_some_iff.1 HM.out).1).trans HM.out
  have HBM := Lib.hid (fun W (h : Ext w19 W) => (box2 ((h.block (Array.getElem?_eq_some_iff.1 hbm).1).trans hbm) (.int .i64 0)).1)
  have E19 := Lib.hid e19
  clear HK HW HD HP HTR HL HF HM HR9 HC12 HC14 HK16 HR18 HT hbm e18 e19 hx1 hx2 hx3 hx4 hx5 hx6 hx7 hx8 hx9 hx10 hx11 hx12 hx13 hx14 hx15 hx16 hx17 hx18 hx19 g17 g16 g15 g14 g13 g12 g11 g10 g9 g8a g8 g6 g2
  generalize w8.heap.size = mb at *
  go_wp2_with fail
  have hsg := span_guard
  have hsn := span_neq
  have hX : Ext w19 w19 := Ext.refl _
  have tok1 : True := trivial
  have tok2 : True := trivial
  go_region_held3 (fun w' => w'.cell? ⟨mb, 0, none⟩ = some (.int .i64 45) ∧ w'.cell? ⟨mb, 1, none⟩ = some (.int .i64 46)) (first | exact HBM.out _ (by repeat (first | assumption | exact Ext.refl _ | apply Ext.drew | apply Ext.alloc)))
    (first
      | (go_at_call 36; refine (lspan_any _ _ _).mono ?_; rintro e wz ⟨rfl, hz⟩; have hY : Ext w19 wz := Ext.trans (by repeat (first | assumption | exact Ext.refl _ | apply Ext.drew | apply Ext.alloc)) hz; clear hz)
      | (go_at_call 17; have _t := tok1; refine (sameSpans_yes _ _ [(54, 56), (44, 46)] _ (HK2.out _ (by repeat (first | assumption | exact Ext.refl _ | apply Ext.drew | apply Ext.alloc))) (spans_new _ _ 2 _ two_le rfl rfl)).mono ?_; rintro e wz ⟨rfl, hz⟩; have hY : Ext w19 wz := Ext.trans (by repeat (first | assumption | exact Ext.refl _ | apply Ext.drew | apply Ext.alloc)) hz; clear hz tok1 _t)
      | (go_at_call 17; refine (sameSpans_yes _ _ [(0, 10), (0, 10)] _ (HD2.out _ (by repeat (first | assumption | exact Ext.refl _ | apply Ext.drew | apply Ext.alloc))) (spans_new _ _ 2 _ two_le rfl rfl)).mono ?_; rintro e wz ⟨rfl, hz⟩; have hY : Ext w19 wz := Ext.trans (by repeat (first | assumption | exact Ext.refl _ | apply Ext.drew | apply Ext.alloc)) hz; clear hz)
      | (go_at_call 37; have _t := tok2; refine (same_yes _ _ [0] _ (HW2.out _ (by repeat (first | assumption | exact Ext.refl _ | apply Ext.drew | apply Ext.alloc))) (kints_new _ _ 1 _ one_le_maxLen rfl rfl)).mono ?_; rintro e wz ⟨rfl, hz⟩; have hY : Ext w19 wz := Ext.trans (by repeat (first | assumption | exact Ext.refl _ | apply Ext.drew | apply Ext.alloc)) hz; clear hz tok2 _t)
      | (go_at_call 37; refine (same_yes _ _ [10, 0, 10] _ (HP2.out _ (by repeat (first | assumption | exact Ext.refl _ | apply Ext.drew | apply Ext.alloc))) (kints_new _ _ 3 _ three_le rfl rfl)).mono ?_; rintro e wz ⟨rfl, hz⟩; have hY : Ext w19 wz := Ext.trans (by repeat (first | assumption | exact Ext.refl _ | apply Ext.drew | apply Ext.alloc)) hz; clear hz))
  have tok3 : True := trivial
  go_wp2_with (first
      | (go_at_call 37; have _t := tok3; refine (same_yes _ _ [1, 2] _ (HTR2.out _ (by repeat (first | assumption | exact Ext.refl _ | apply Ext.drew | apply Ext.alloc))) (kints_new _ _ 2 _ two_le rfl rfl)).mono ?_; rintro e wz ⟨rfl, hz⟩; have hY : Ext w19 wz := Ext.trans (by repeat (first | assumption | exact Ext.refl _ | apply Ext.drew | apply Ext.alloc)) hz; clear hz tok3 _t)
      | (go_at_call 38; refine (samePlan_yes _ _ [[1], [2, 3]] _ (HL2.out _ (by repeat (first | assumption | exact Ext.refl _ | apply Ext.drew | apply Ext.alloc))) (rows_new _)).mono ?_; rintro e wz ⟨rfl, hz⟩; have hY : Ext w19 wz := Ext.trans (by repeat (first | assumption | exact Ext.refl _ | apply Ext.drew | apply Ext.alloc)) hz; clear hz)
      | (go_at_call 37; refine (same_yes _ _ [2, 0, 1] _ (HF2.out _ (by repeat (first | assumption | exact Ext.refl _ | apply Ext.drew | apply Ext.alloc))) (kints_new _ _ 3 _ three_le rfl rfl)).mono ?_; rintro e wz ⟨rfl, hz⟩; have hY : Ext w19 wz := Ext.trans (by repeat (first | assumption | exact Ext.refl _ | apply Ext.drew | apply Ext.alloc)) hz; clear hz))
  go_ret
  exact ⟨rfl, E19.out.trans hY⟩
end Go.Proofs.YtbeophjdiddomaaGreatDoor
