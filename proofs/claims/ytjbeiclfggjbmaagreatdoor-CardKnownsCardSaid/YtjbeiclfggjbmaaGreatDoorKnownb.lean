/- SamePlan, and the law's 'known': rows of the document's examples. -/
import Derived.Test.YtjbeiclfggjbmaaGreatDoorEval
namespace Go.Proofs.YtjbeiclfggjbmaaGreatDoor
open Go.RowKit

set_option maxRecDepth 100000 in
set_option maxHeartbeats 2000000 in
theorem samePlan_any (va vb : Value) (xs ys : List (List Int)) (w : World) (ha : RowsAt w va xs) (hb : RowsAt w vb ys) :
    Calls Tryz.prog 58 #[va, vb] w fun e w' => e = .returned (.bool (decide (xs = ys))) ∧ Ext w w' := by
  obtain ⟨a, c, rfl, h1, h2, h3⟩ := ha.open
  obtain ⟨a', c', rfl, h1', h2', h3'⟩ := hb.open
  have hmix : Tryz.prog.follows .mixedOrders = true := by kernel_rfl
  by_cases hl : xs.length = ys.length
  · have t0 : (xs.length == ys.length) = true := by simpa using hl
    have t1 : ((xs.length : Int) != (ys.length : Int)) = false := by simp [hl]
    have HL := Lib.hid hl
    have H3 := Lib.hid h3
    have H3' := Lib.hid h3'
    clear hl h3 h3' ha hb
    go_enter Tryz.func58, Tryz.ntmps58
    go_wp2
    go_loopw [5] (fun i wr => ∃ k : Nat, k ≤ xs.length ∧ i = .int .i64 k ∧ Hid (xs.take k = ys.take k) ∧ Ext w wr) (fun i _ => xs.length - (intOf i).toNat)
    case atStart => exact ⟨0, Nat.zero_le _, rfl, by simp [Hid], Ext.refl _⟩
    case round =>
      obtain ⟨k, hk, rfl, hE, hx⟩ := hrel
      by_cases hlt : k < xs.length
      · obtain ⟨b, o, u, x, rfl, hxk, hc, hux⟩ := H3.out k hlt
        obtain ⟨b', o', u', y, rfl, hyk, hc', huy⟩ := H3'.out k (by rw [← HL.out]; exact hlt)
        have hlt' : k < ys.length := by rw [← HL.out]; exact hlt
        obtain ⟨ua, uc, rfl, _⟩ := hux.open
        obtain ⟨ua', uc', rfl, _⟩ := huy.open
        have d0 := hx.cell hc
        have d1 := hx.cell hc'
        have x2 : decide ((k : Int) < (xs.length : Int)) = true := by simpa using hlt
        have x3 : decide ((k : Int) < (ys.length : Int)) = true := by simpa using hlt'
        have x4 : (k : Int) < (xs.length : Int) := by omega
        have x5 : (k : Int) < (ys.length : Int) := by omega
        have HS := Lib.hid (fun w1 (hx : Ext w w1) => same_any _ _ x y w1 (hux.ext hx) (huy.ext hx))
        clear hc hc' hux huy
        cases hxy : decide (x = y) with
        | true =>
          have hs := Lib.hid (take_eq_succ hE.out hxk.out hyk.out (of_decide_eq_true hxy))
          rw [hxy] at HS
          clear hxy
          go_upto_region 6 with fail
          go_region_held3 (fun w' => w'.cell? ⟨b, o + k, none⟩ = some (.slice ua x.length uc) ∧ w'.cell? ⟨b', o' + k, none⟩ = some (.slice ua' y.length uc')) (first | go_keep | exact ⟨hx1.cell (by go_simp), hx1.cell (by go_simp)⟩)
            (first
              | (go_at_call 34; refine (HS.out _ hx.drew).mono ?_; rintro e w1 ⟨rfl, hx1⟩))
          go_wp2
          exact ⟨⟨k + 1, by omega, by go_num, hs.out, hx.drew.trans hx1⟩, by simp [intOf]; omega⟩
        | false =>
          have hne : xs ≠ ys := ne_of_at hxk.out hyk.out (of_decide_eq_false hxy)
          have hd : decide (xs = ys) = false := by simpa using hne
          have HD := Lib.hid hd
          rw [hxy] at HS
          clear hxy hne hd
          go_upto_region 6 with fail
          go_region_held3 (fun w' => w'.cell? ⟨b, o + k, none⟩ = some (.slice ua x.length uc) ∧ w'.cell? ⟨b', o' + k, none⟩ = some (.slice ua' y.length uc')) (first | go_keep | exact ⟨hx1.cell (by go_simp), hx1.cell (by go_simp)⟩)
            (first
              | (go_at_call 34; refine (HS.out _ hx.drew).mono ?_; rintro e w1 ⟨rfl, hx1⟩))
          go_wp2
          go_ret
          exact ⟨by rw [HD.out]; rfl, hx.drew.trans hx1⟩
      · have hke : k = xs.length := by omega
        have he : xs = ys := by
          have := hE.out
          rwa [List.take_of_length_le (by omega), List.take_of_length_le (by have := HL.out; omega)] at this
        have hd : decide (xs = ys) = true := by simpa using he
        have x2 : decide ((k : Int) < (xs.length : Int)) = false := by simp; omega
        have HD := Lib.hid hd
        clear he hd hke
        go_wp2
        go_ret
        exact ⟨by rw [HD.out]; rfl, hx⟩
  · have hne : xs ≠ ys := fun e => hl (by rw [e])
    have hd : decide (xs = ys) = false := by simpa using hne
    have t0 : (xs.length == ys.length) = false := by simpa using hl
    have t1 : ((xs.length : Int) == (ys.length : Int)) = false := by rw [beq_eq_false_iff_ne]; omega
    have t2 : (xs.length != ys.length) = true := by simpa using hl
    have t3 : ((xs.length : Int) != (ys.length : Int)) = true := by rw [bne_iff_ne]; omega
    rw [hd]
    clear hne hd hl h3 h3' ha hb
    go_enter Tryz.func58, Tryz.ntmps58
    go_wp2
    go_ret
    exact ⟨rfl, Ext.refl _⟩

/-! ### Contracts at the examples, in the walk's own form -/
theorem k_R (w : World) : Calls Tryz.prog 90 #[] w fun e w' => ∃ hb, e = .returned (.agg #[.int .i64 12, .int .i64 2, .int .i64 3, .int .i64 5, .int .i64 4, .slice (some ⟨hb, 0, none⟩) 2 2, .int .i64 100, .int .i64 0]) ∧ Ext w w' ∧ RoundAt w' (.agg #[.int .i64 12, .int .i64 2, .int .i64 3, .int .i64 5, .int .i64 4, .slice (some ⟨hb, 0, none⟩) 2 2, .int .i64 100, .int .i64 0]) rR :=
  (lR_any w).mono fun e w' h => by obtain ⟨hb, h1, h2, _, h4⟩ := h; exact ⟨hb, h1, h2, round_of_cells h4⟩
theorem k_Q (w : World) : Calls Tryz.prog 91 #[] w fun e w' => ∃ hb, e = .returned (.agg #[.int .i64 12, .int .i64 2, .int .i64 3, .int .i64 5, .int .i64 4, .slice (some ⟨hb, 0, none⟩) 2 2, .int .i64 91, .int .i64 0]) ∧ Ext w w' ∧ RoundAt w' (.agg #[.int .i64 12, .int .i64 2, .int .i64 3, .int .i64 5, .int .i64 4, .slice (some ⟨hb, 0, none⟩) 2 2, .int .i64 91, .int .i64 0]) rQ :=
  (lQ_any w).mono fun e w' h => by obtain ⟨hb, h1, h2, _, h4⟩ := h; exact ⟨hb, h1, h2, round_of_cells h4⟩
theorem k_C (w : World) : Calls Tryz.prog 92 #[] w fun e w' => ∃ (a b : Option Addr) (n m c d : Nat), e = .returned (.agg #[.slice a n c, .int .i64 8, .slice b m d]) ∧ Ext w w' ∧ RoadsAt w' (.agg #[.slice a n c, .int .i64 8, .slice b m d]) cC :=
  (lC_any w).mono fun e w' h => by
    obtain ⟨v, h1, h2, lv, fv, rfl, h4, h5⟩ := h
    obtain ⟨a, c, rfl, _⟩ := h4.open
    obtain ⟨b, d, rfl, _⟩ := h5.open
    exact ⟨_, _, _, _, _, _, h1, h2, _, _, rfl, h4, h5⟩
theorem k_K (w : World) : Calls Tryz.prog 93 #[] w fun e w' => ∃ (a : Option Addr) (c : Nat), e = .returned (.slice a 3 c) ∧ Ext w w' ∧ KindsAt w' (.slice a 3 c) kK :=
  (lK_any w).mono fun e w' h => by
    obtain ⟨v, h1, h2, h3⟩ := h
    obtain ⟨a, c, rfl, _⟩ := h3.open
    exact ⟨_, _, h1, h2, h3⟩
theorem k_Known (v : Value) (w : World) (hr : RoundAt w v rR) : Calls Tryz.prog 26 #[v] w fun e w' => ∃ (a : Option Addr) (c : Nat), e = .returned (.tuple #[.slice a 2 c, .int .i64 0]) ∧ Ext w w' ∧ SpansAt w' (.slice a 2 c) [(54, 56), (44, 46)] :=
  (known_any v rR w hr).mono fun e w' h => by
    obtain ⟨v1, err, h1, h2, h3⟩ := h
    rw [if_pos ev_R, if_pos ev_agR, ev_known] at h3
    obtain ⟨rfl, h4⟩ := h3
    obtain ⟨a, c, rfl, _⟩ := h4.open
    exact ⟨a, c, h1, h2, h4⟩
theorem k_Agree (v : Value) (w : World) (hr : RoundAt w v rQ) : Calls Tryz.prog 66 #[v] w fun e w' => e = .returned (.tuple #[.bool false, .int .i64 0]) ∧ Ext w w' :=
  (agree_any v rQ w hr).mono fun e w' h => by
    obtain ⟨b, err, h1, h2, h3⟩ := h
    rw [if_pos ev_Q] at h3
    obtain ⟨rfl, h4⟩ := h3
    have hb : b = false := by
      cases b with
      | false => rfl
      | true => have := (agreeB_iff (roundB_of ev_Q)).2 (h4.1 rfl); rw [ev_agQ] at this; cases this
    subst hb
    exact ⟨h1, h2⟩
theorem k_Wrong (v : Value) (w : World) (hr : RoundAt w v rQ) : Calls Tryz.prog 31 #[v] w fun e w' => ∃ (a : Option Addr) (c : Nat), e = .returned (.tuple #[.slice a 1 c, .int .i64 0]) ∧ Ext w w' ∧ IntsAt w' (.slice a 1 c) [0] :=
  (wrong_any v rQ w hr).mono fun e w' h => by
    obtain ⟨v1, err, h1, h2, h3⟩ := h
    rw [if_pos ev_Q, if_neg (by rw [ev_agQ]; simp), ev_wrong, if_neg (by simp)] at h3
    obtain ⟨rfl, h4⟩ := h3
    obtain ⟨a, c, rfl, _⟩ := h4.open
    exact ⟨a, c, h1, h2, h4⟩
theorem k_Mends (v : Value) (w : World) (hr : RoundAt w v rQ) : Calls Tryz.prog 32 #[v, .int .i64 0] w fun e w' => e = .returned (.tuple #[.agg #[.int .i64 45, .int .i64 46], .int .i64 0]) ∧ Ext w w' :=
  (mends_any v rQ 0 w hr).mono fun e w' h => by
    obtain ⟨q, err, h1, h2, h3⟩ := h
    rw [if_pos ⟨ev_Q, by decide⟩, if_pos ev_agQ0] at h3
    obtain ⟨rfl, h4⟩ := h3
    rw [show (0 : Int).toNat = 0 from rfl, ev_mends] at h4
    subst h4
    exact ⟨h1, h2⟩
theorem k_Due (v kv : Value) (w : World) (hr : RoundAt w v rR) (hk : IntsAt w kv [89, 99]) : Calls Tryz.prog 37 #[v, .int .i64 10, kv] w fun e w' => ∃ (a : Option Addr) (c : Nat), e = .returned (.tuple #[.slice a 2 c, .int .i64 0]) ∧ Ext w w' ∧ SpansAt w' (.slice a 2 c) [(0, 10), (0, 10)] :=
  (due_ok v kv rR 10 [89, 99] w hr hk ev_kept).mono fun e w' h => by
    obtain ⟨v1, err, h1, h2, h3⟩ := h
    rw [if_pos ⟨ev_R, ev_kept⟩, if_pos ev_agR, ev_due] at h3
    obtain ⟨rfl, h4⟩ := h3
    obtain ⟨a, c, rfl, _⟩ := h4.open
    exact ⟨a, c, h1, h2, h4⟩
theorem k_Tour (v hv : Value) (w : World) (hr : RoadsAt w v cC) (hk : IntsAt w hv [1, 2]) : Calls Tryz.prog 47 #[v, hv] w fun e w' => ∃ (a : Option Addr) (c : Nat), e = .returned (.tuple #[.slice a 2 c, .int .i64 14, .int .i64 0]) ∧ Ext w w' ∧ IntsAt w' (.slice a 2 c) [1, 2] :=
  (tour_any v hv cC [1, 2] w hr hk (by decide) (fun _ _ => ev_loads)).mono fun e w' h => by
    obtain ⟨nv, d, err, h1, h2, h3⟩ := h
    rw [if_neg (by rw [ev_roads, ev_stops]; simp)] at h3
    obtain ⟨rfl, h4⟩ := h3
    rw [ev_tour] at h4
    obtain ⟨rfl, h5⟩ := h4
    rw [ev_tourL] at h1
    obtain ⟨a, c, rfl, _⟩ := h5.open
    exact ⟨a, c, h1, h2, h5⟩
theorem k_Plan (v : Value) (w : World) (hr : RoadsAt w v cC) : Calls Tryz.prog 56 #[v] w fun e w' => ∃ (a : Option Addr) (c : Nat), e = .returned (.tuple #[.slice a 2 c, .int .i64 22, .int .i64 0]) ∧ Ext w w' ∧ RowsAt w' (.slice a 2 c) [[1], [2, 3]] :=
  (plan_any v cC w hr).mono fun e w' h => by
    obtain ⟨nv, d, err, h1, h2, h3⟩ := h
    rw [if_neg (by rw [ev_roads]; simp), if_neg ev_max] at h3
    obtain ⟨rfl, h4⟩ := h3
    rw [ev_plan] at h4
    obtain ⟨rfl, h5⟩ := h4
    rw [ev_planL] at h1
    obtain ⟨a, c, rfl, _⟩ := h5.open
    exact ⟨a, c, h1, h2, h5⟩
theorem k_Fill (v : Value) (w : World) (hr : KindsAt w v kK) : Calls Tryz.prog 60 #[v, .int .i64 53] w fun e w' => ∃ (a : Option Addr) (c : Nat), e = .returned (.tuple #[.slice a 3 c, .int .i64 3, .int .i64 0]) ∧ Ext w w' ∧ IntsAt w' (.slice a 3 c) [2, 0, 1] :=
  (fill_any v kK 53 w hr).mono fun e w' h => by
    obtain ⟨nv, d, err, h1, h2, h3⟩ := h
    rw [if_pos ⟨ev_kinds, by decide⟩, ev_fill] at h3
    obtain ⟨h4, rfl, rfl⟩ := h3
    obtain ⟨a, c, rfl, _⟩ := h4.open
    exact ⟨a, c, h1, h2, h4⟩
theorem k_Print (v : Value) (w : World) (hr : RoundAt w v rR) (ht : TabOk w) : Calls Tryz.prog 85 #[v] w fun e w' => e = .returned (.tuple #[strV (textT rR), .int .i64 0]) ∧ Ext w w' :=
  (print_any v rR w hr ht).mono fun e w' h => by
    obtain ⟨h1, h2⟩ := h
    rw [if_pos ev_R, if_pos ev_R] at h1
    exact ⟨h1, h2⟩
end Go.Proofs.YtjbeiclfggjbmaaGreatDoor
