/- The law RiverRivals. -/
import Derived.Test.YtabkfohbdfpdpaaGreatDoorRefs
import Derived.Test.YtabkfohbdfpdpaaGreatDoorRefl
import Derived.Test.YtabkfohbdfpdpaaGreatDoorRefk
import Derived.Test.YtabkfohbdfpdpaaGreatDoorLawb
namespace Go.Proofs.YtabkfohbdfpdpaaGreatDoor
open Go.RowKit

theorem E_lics : Elem Tryz.prog 74 89 4 32 (.agg #[.int .i64 0, .int .i64 0, .int .i64 0, .int .i64 0]) := by
  obtain ⟨i, h1, h2, h3, h4⟩ := info_parts (P := Tryz.prog) (e := 89) (z := .agg #[.int .i64 0, .int .i64 0, .int .i64 0, .int .i64 0]) (size := 4) (bytes := 32) (by kernel_rfl)
  exact ⟨Tryz.underlying74, ⟨i, h1, h2, h3, h4⟩, rfl, by decide⟩
theorem lics_len (xs : List Licence) : (xs.flatMap licC).length = xs.length * 4 := by
  induction xs with
  | nil => rfl
  | cons x xs ih => rw [List.flatMap_cons, List.length_append, ih, List.length_cons]; show 4 + _ = _; omega
theorem lics_one (xs : List Licence) : ∀ u, u ∈ xs.flatMap licC → u.oneCell' = true := by
  intro u hu
  obtain ⟨x, _, h⟩ := List.mem_flatMap.1 hu
  unfold licC at h
  simp only [List.mem_cons, List.not_mem_nil, or_false] at h
  rcases h with rfl | rfl | rfl | rfl <;> rfl
theorem lics_at : ∀ (xs : List Licence) (p : Nat) (x : Licence), xs[p]? = some x → (xs.flatMap licC)[p * 4 + 3]? = some (.int .i64 x.quota)
  | [], p, x, h => by cases h
  | y :: xs, 0, x, h => by
    obtain rfl : y = x := by simpa using h
    rfl
  | y :: xs, p + 1, x, h => by
    have ih := lics_at xs p x (by simpa using h)
    rw [show (p + 1) * 4 + 3 = p * 4 + 3 + 4 by omega]
    exact ih
theorem lics_set : ∀ (xs : List Licence) (p : Nat) (x : Licence) (q : Int), xs[p]? = some x → (xs.flatMap licC).set (p * 4 + 3) (.int .i64 q) = (xs.set p ⟨x.river, x.first, x.last, q⟩).flatMap licC
  | [], p, x, q, h => by cases h
  | y :: xs, 0, x, q, h => by
    obtain rfl : y = x := by simpa using h
    rfl
  | y :: xs, p + 1, x, q, h => by
    have ih := lics_set xs p x q (by simpa using h)
    rw [show (p + 1) * 4 + 3 = p * 4 + 3 + 4 by omega]
    show licC y ++ (xs.flatMap licC).set (p * 4 + 3) _ = licC y ++ (xs.set p _).flatMap licC
    rw [ih]
def richTo (more : Int) (l : List Licence) (k : Nat) : List Licence := (l.take k).map (richOf more) ++ l.drop k
theorem richTo_len (more : Int) (l : List Licence) (k : Nat) : (richTo more l k).length = l.length := by
  unfold richTo; rw [List.length_append, List.length_map, List.length_take, List.length_drop]; omega
theorem richTo_at {more : Int} {l : List Licence} {k : Nat} {x : Licence} (h : l[k]? = some x) : (richTo more l k)[k]? = some x := by
  have hk := (List.getElem?_eq_some_iff.1 h).1
  unfold richTo
  rw [List.getElem?_append_right (by rw [List.length_map, List.length_take]; omega), List.length_map, List.length_take, show k - min k l.length = 0 by omega, drop_at h]; rfl
theorem richTo_succ {more : Int} {l : List Licence} {k : Nat} {x : Licence} (h : l[k]? = some x) : richTo more l (k + 1) = (richTo more l k).set k (richOf more x) := by
  have hk := (List.getElem?_eq_some_iff.1 h).1
  unfold richTo
  rw [List.set_append_right _ _ (by rw [List.length_map, List.length_take]; omega), List.length_map, List.length_take, show k - min k l.length = 0 by omega, drop_at h, List.take_add_one, h]
  simp
theorem richTo_all (more : Int) (l : List Licence) : richTo more l l.length = l.map (richOf more) := by
  unfold richTo; rw [List.take_length, List.drop_length, List.append_nil]
theorem Deal_ok {bv lv tv : Value} {b : Book} {l : List Licence} {ts : List Take} {w : World} (hb : BookAt w bv b) (hl : RowOf licC w lv l) (ht : RowOf takC w tv ts) (h : dealArg b l ts = true) :
    Calls Tryz.prog 34 #[bv, lv, tv] w fun e w' => ∃ (a : Option Addr) (c : Nat), e = .returned (.tuple #[.slice a (dealOf b l ts).1.length c, .int .i64 (dealOf b l ts).2, .int .i64 0]) ∧ Ext w w' ∧ IntsAt w' (.slice a (dealOf b l ts).1.length c) (dealOf b l ts).1 :=
  (Deal_any bv lv tv b l ts w hb hl ht).mono fun e w' q => by
    obtain ⟨v, h1, h2, h3⟩ := q
    simp only [h, if_pos] at h1 h3
    obtain ⟨a, c, rfl, _⟩ := h3.open
    exact ⟨a, c, h1, h2, h3⟩
theorem Deals_ok {bv lv tv dv : Value} {b : Book} {l : List Licence} {ts : List Take} {d : List Int} {w : World} (hb : BookAt w bv b) (hl : RowOf licC w lv l) (ht : RowOf takC w tv ts) (hd : IntsAt w dv d) (h : dealsArg b l ts d = true) :
    Calls Tryz.prog 33 #[bv, lv, tv, dv] w fun e w' => e = .returned (.tuple #[.bool (dealsB b l ts d).1, .int .i64 (dealsB b l ts d).2, .int .i64 0]) ∧ Ext w w' :=
  (Deals_any bv lv tv dv b l ts d w hb hl ht hd).mono fun e w' q => by
    unfold DealsRes at q
    simp only [h, if_pos] at q
    exact q
set_option maxRecDepth 100000 in
set_option maxHeartbeats 8000000 in
theorem riverRivals_any (v : Value) (b : Book) (lv : Value) (l : List Licence) (tv : Value) (ts : List Take) (dv : Value) (d : List Int) (more : Int) (w : World) (hb : BookAt w v b) (hl : RowOf licC w lv l) (ht : RowOf takC w tv ts) (hd : IntsAt w dv d) (hT : TabOk w) :
    Calls Tryz.prog 9 #[v, lv, tv, dv, .int .i64 more] w (TrueP w) := by
  have HB := Lib.hid (LawB.of hb hT)
  have HBB := Lib.hid (fun w1 (h : Ext w w1) => hb.ext h)
  obtain ⟨ra, rc, rfl, _⟩ := hb.slice
  obtain ⟨la, lc, rfl, lc1, lc2, _⟩ := RowAt.open hl
  obtain ⟨ta, tc, rfl, tc1, tc2, _⟩ := RowAt.open ht
  obtain ⟨da, dc, rfl, dc1, dc2, _⟩ := hd.open
  have HL := Lib.hid (fun w1 (h : Ext w w1) => RowOf.ext hl h)
  have HTT := Lib.hid (fun w1 (h : Ext w w1) => RowOf.ext ht h)
  have HD := Lib.hid (fun w1 (h : Ext w w1) => IntsAt.ext hd h)
  have HST := Lib.hid (fun w1 (h : Ext w w1) => stocked_any _ _ l ts w1 (HL.out w1 h) (HTT.out w1 h))
  have HX0 := Lib.hid ((Ext.refl w).alloc _ : Ext w (w.alloc (.cells #[.int .i64 b.years, .slice ra b.rivers.length rc] 24)))
  have HS := Lib.hid (fun W (h : Ext (w.alloc (.cells #[.int .i64 b.years, .slice ra b.rivers.length rc] 24)) W) => (⟨h.cell (by go_simp), h.cell (by go_simp)⟩ : W.cell? ⟨w.heap.size, 0, none⟩ = some (.int .i64 b.years) ∧ W.cell? ⟨w.heap.size, 1, none⟩ = some (.slice ra b.rivers.length rc)))
  clear hb hT hl ht hd
  cases h1 : slimB b with
  | false =>
    go_enter Tryz.func9, Tryz.ntmps9
    go_wp2_with (first | (go_at_call 11; refine (HB.out.slim _ HX0.out).mono ?_; rintro e w1 ⟨rfl, hq⟩; obtain ⟨z0, z1⟩ := HS.out _ hq) | (go_at_call 16; refine (HB.out.known _ (HX0.out.trans hq)).mono ?_; rintro e w4 ⟨rfl, hx4⟩))
    go_ret
    exact ⟨rfl, (HX0.out.trans hq).trans hx4⟩
  | true =>
    cases h2 : stockedB l ts with
    | false =>
      rw [h2] at HST
      go_enter Tryz.func9, Tryz.ntmps9
      go_wp2_with (first | (go_at_call 11; refine (HB.out.slim _ HX0.out).mono ?_; rintro e w1 ⟨rfl, hq⟩; obtain ⟨z0, z1⟩ := HS.out _ hq) | (go_at_call 32; refine (HST.out _ (HX0.out.trans hq)).mono ?_; rintro e w' ⟨rfl, rfl⟩) | (go_at_call 16; refine (HB.out.known _ (HX0.out.trans hq)).mono ?_; rintro e w4 ⟨rfl, hx4⟩))
      go_ret
      exact ⟨rfl, (HX0.out.trans hq).trans hx4⟩
    | true =>
      rw [h2] at HST
      by_cases h3 : 9 < d.length
      · have t3 : decide ((9 : Int) < (d.length : Int)) = true := by simp; omega
        go_enter Tryz.func9, Tryz.ntmps9
        go_wp2_with (first | (go_at_call 11; refine (HB.out.slim _ HX0.out).mono ?_; rintro e w1 ⟨rfl, hq⟩; obtain ⟨z0, z1⟩ := HS.out _ hq) | (go_at_call 32; refine (HST.out _ (HX0.out.trans hq)).mono ?_; rintro e w' ⟨rfl, rfl⟩) | (go_at_call 16; refine (HB.out.known _ (HX0.out.trans hq)).mono ?_; rintro e w4 ⟨rfl, hx4⟩))
        go_ret
        exact ⟨rfl, (HX0.out.trans hq).trans hx4⟩
      · have t3 : decide ((9 : Int) < (d.length : Int)) = false := by simp; omega
        cases h4 : isBookB b with
        | false =>
          go_enter Tryz.func9, Tryz.ntmps9
          go_wp2_with (first | (go_at_call 11; refine (HB.out.slim _ HX0.out).mono ?_; rintro e w1 ⟨rfl, hq⟩; obtain ⟨z0, z1⟩ := HS.out _ hq) | (go_at_call 32; refine (HST.out _ (HX0.out.trans hq)).mono ?_; rintro e w' ⟨rfl, rfl⟩) | (go_at_call 12; refine (HB.out.book _ (HX0.out.trans hq)).mono ?_; rintro e w1 ⟨rfl, hx1⟩; replace hq := hq.trans hx1; clear hx1 z0 z1; obtain ⟨z0, z1⟩ := HS.out _ hq) | (go_at_call 16; refine (HB.out.known _ (HX0.out.trans hq)).mono ?_; rintro e w4 ⟨rfl, hx4⟩))
          go_ret
          exact ⟨rfl, (HX0.out.trans hq).trans hx4⟩
        | true =>
          have HBO := Lib.hid (bookB_of h4)
          have HLC := Lib.hid (fun w1 (h : Ext w w1) => rlics_any _ _ b l w1 (HBB.out w1 h) HBO.out (HL.out w1 h))
          have HTK := Lib.hid (fun w1 (h : Ext w w1) => rtaks_any _ _ b ts w1 (HBB.out w1 h) HBO.out (HTT.out w1 h))
          cases h5 : areLicencesB b l with
          | false =>
            rw [h5] at HLC
            go_enter Tryz.func9, Tryz.ntmps9
            go_wp2_with (first | (go_at_call 11; refine (HB.out.slim _ HX0.out).mono ?_; rintro e w1 ⟨rfl, hq⟩; obtain ⟨z0, z1⟩ := HS.out _ hq) | (go_at_call 32; refine (HST.out _ (HX0.out.trans hq)).mono ?_; rintro e w' ⟨rfl, rfl⟩) | (go_at_call 12; refine (HB.out.book _ (HX0.out.trans hq)).mono ?_; rintro e w1 ⟨rfl, hx1⟩; replace hq := hq.trans hx1; clear hx1 z0 z1; obtain ⟨z0, z1⟩ := HS.out _ hq) | (go_at_call 35; refine (HLC.out _ (HX0.out.trans hq)).mono ?_; rintro e w1 ⟨rfl, hx1⟩; replace hq := hq.trans hx1; clear hx1 z0 z1; obtain ⟨z0, z1⟩ := HS.out _ hq) | (go_at_call 16; refine (HB.out.known _ (HX0.out.trans hq)).mono ?_; rintro e w4 ⟨rfl, hx4⟩))
            go_ret
            exact ⟨rfl, (HX0.out.trans hq).trans hx4⟩
          | true =>
            rw [h5] at HLC
            cases h6 : areTakesB b ts with
            | false =>
              rw [h6] at HTK
              go_enter Tryz.func9, Tryz.ntmps9
              go_wp2_with (first | (go_at_call 11; refine (HB.out.slim _ HX0.out).mono ?_; rintro e w1 ⟨rfl, hq⟩; obtain ⟨z0, z1⟩ := HS.out _ hq) | (go_at_call 32; refine (HST.out _ (HX0.out.trans hq)).mono ?_; rintro e w' ⟨rfl, rfl⟩) | (go_at_call 12; refine (HB.out.book _ (HX0.out.trans hq)).mono ?_; rintro e w1 ⟨rfl, hx1⟩; replace hq := hq.trans hx1; clear hx1 z0 z1; obtain ⟨z0, z1⟩ := HS.out _ hq) | (go_at_call 35; refine (HLC.out _ (HX0.out.trans hq)).mono ?_; rintro e w1 ⟨rfl, hx1⟩; replace hq := hq.trans hx1; clear hx1 z0 z1; obtain ⟨z0, z1⟩ := HS.out _ hq) | (go_at_call 36; refine (HTK.out _ (HX0.out.trans hq)).mono ?_; rintro e w1 ⟨rfl, hx1⟩; replace hq := hq.trans hx1; clear hx1 z0 z1; obtain ⟨z0, z1⟩ := HS.out _ hq) | (go_at_call 16; refine (HB.out.known _ (HX0.out.trans hq)).mono ?_; rintro e w4 ⟨rfl, hx4⟩))
              go_ret
              exact ⟨rfl, (HX0.out.trans hq).trans hx4⟩
            | true =>
              rw [h6] at HTK
              have hll := (licencesB_of h5).1
              have HLI := Lib.hid (fun w1 (h : Ext w w1) => rlist_any _ _ _ l ts d w1 (HL.out w1 h) (HTT.out w1 h) (HD.out w1 h) (by omega))
              cases h7 : (decide (d.length = ts.length) && dealOkB l d) with
              | false =>
                rw [h7] at HLI
                go_enter Tryz.func9, Tryz.ntmps9
                go_wp2_with (first | (go_at_call 11; refine (HB.out.slim _ HX0.out).mono ?_; rintro e w1 ⟨rfl, hq⟩; obtain ⟨z0, z1⟩ := HS.out _ hq) | (go_at_call 32; refine (HST.out _ (HX0.out.trans hq)).mono ?_; rintro e w' ⟨rfl, rfl⟩) | (go_at_call 12; refine (HB.out.book _ (HX0.out.trans hq)).mono ?_; rintro e w1 ⟨rfl, hx1⟩; replace hq := hq.trans hx1; clear hx1 z0 z1; obtain ⟨z0, z1⟩ := HS.out _ hq) | (go_at_call 35; refine (HLC.out _ (HX0.out.trans hq)).mono ?_; rintro e w1 ⟨rfl, hx1⟩; replace hq := hq.trans hx1; clear hx1 z0 z1; obtain ⟨z0, z1⟩ := HS.out _ hq) | (go_at_call 36; refine (HTK.out _ (HX0.out.trans hq)).mono ?_; rintro e w1 ⟨rfl, hx1⟩; replace hq := hq.trans hx1; clear hx1 z0 z1; obtain ⟨z0, z1⟩ := HS.out _ hq) | (go_at_call 40; refine (HLI.out _ (HX0.out.trans hq)).mono ?_; rintro e w1 ⟨rfl, hx1⟩; replace hq := hq.trans hx1; clear hx1 z0 z1; obtain ⟨z0, z1⟩ := HS.out _ hq) | (go_at_call 16; refine (HB.out.known _ (HX0.out.trans hq)).mono ?_; rintro e w4 ⟨rfl, hx4⟩))
                go_ret
                exact ⟨rfl, (HX0.out.trans hq).trans hx4⟩
              | true =>
                rw [h7] at HLI
                by_cases h8 : more < 0
                · have t8 : decide (more < 0) = true := by simpa using h8
                  go_enter Tryz.func9, Tryz.ntmps9
                  go_wp2_with (first | (go_at_call 11; refine (HB.out.slim _ HX0.out).mono ?_; rintro e w1 ⟨rfl, hq⟩; obtain ⟨z0, z1⟩ := HS.out _ hq) | (go_at_call 32; refine (HST.out _ (HX0.out.trans hq)).mono ?_; rintro e w' ⟨rfl, rfl⟩) | (go_at_call 12; refine (HB.out.book _ (HX0.out.trans hq)).mono ?_; rintro e w1 ⟨rfl, hx1⟩; replace hq := hq.trans hx1; clear hx1 z0 z1; obtain ⟨z0, z1⟩ := HS.out _ hq) | (go_at_call 35; refine (HLC.out _ (HX0.out.trans hq)).mono ?_; rintro e w1 ⟨rfl, hx1⟩; replace hq := hq.trans hx1; clear hx1 z0 z1; obtain ⟨z0, z1⟩ := HS.out _ hq) | (go_at_call 36; refine (HTK.out _ (HX0.out.trans hq)).mono ?_; rintro e w1 ⟨rfl, hx1⟩; replace hq := hq.trans hx1; clear hx1 z0 z1; obtain ⟨z0, z1⟩ := HS.out _ hq) | (go_at_call 40; refine (HLI.out _ (HX0.out.trans hq)).mono ?_; rintro e w1 ⟨rfl, hx1⟩; replace hq := hq.trans hx1; clear hx1 z0 z1; obtain ⟨z0, z1⟩ := HS.out _ hq) | (go_at_call 16; refine (HB.out.known _ (HX0.out.trans hq)).mono ?_; rintro e w4 ⟨rfl, hx4⟩))
                  go_ret
                  exact ⟨rfl, (HX0.out.trans hq).trans hx4⟩
                · have t8 : decide (more < 0) = false := by simpa using h8
                  by_cases h9 : 100 < more
                  · have t9 : decide ((100 : Int) < more) = true := by simpa using h9
                    go_enter Tryz.func9, Tryz.ntmps9
                    go_wp2_with (first | (go_at_call 11; refine (HB.out.slim _ HX0.out).mono ?_; rintro e w1 ⟨rfl, hq⟩; obtain ⟨z0, z1⟩ := HS.out _ hq) | (go_at_call 32; refine (HST.out _ (HX0.out.trans hq)).mono ?_; rintro e w' ⟨rfl, rfl⟩) | (go_at_call 12; refine (HB.out.book _ (HX0.out.trans hq)).mono ?_; rintro e w1 ⟨rfl, hx1⟩; replace hq := hq.trans hx1; clear hx1 z0 z1; obtain ⟨z0, z1⟩ := HS.out _ hq) | (go_at_call 35; refine (HLC.out _ (HX0.out.trans hq)).mono ?_; rintro e w1 ⟨rfl, hx1⟩; replace hq := hq.trans hx1; clear hx1 z0 z1; obtain ⟨z0, z1⟩ := HS.out _ hq) | (go_at_call 36; refine (HTK.out _ (HX0.out.trans hq)).mono ?_; rintro e w1 ⟨rfl, hx1⟩; replace hq := hq.trans hx1; clear hx1 z0 z1; obtain ⟨z0, z1⟩ := HS.out _ hq) | (go_at_call 40; refine (HLI.out _ (HX0.out.trans hq)).mono ?_; rintro e w1 ⟨rfl, hx1⟩; replace hq := hq.trans hx1; clear hx1 z0 z1; obtain ⟨z0, z1⟩ := HS.out _ hq) | (go_at_call 16; refine (HB.out.known _ (HX0.out.trans hq)).mono ?_; rintro e w4 ⟨rfl, hx4⟩))
                    go_ret
                    exact ⟨rfl, (HX0.out.trans hq).trans hx4⟩
                  · have t9 : decide ((100 : Int) < more) = false := by simpa using h9
                    have htl := (takesB_of h6).1
                    have harg : dealArg b l ts = true := by unfold dealArg; rw [h4, h5, h6]; rfl
                    have hargs : dealsArg b l ts d = true := by unfold dealsArg; rw [harg, Bool.true_and]; exact h7
                    have hbd := dealOf_best b l ts
                    have hargb : dealsArg b l ts (dealOf b l ts).1 = true := by unfold dealsArg; rw [harg, hbd.ok, decide_eq_true hbd.len]; rfl
                    have hlib : (decide ((dealOf b l ts).1.length = ts.length) && dealOkB l (dealOf b l ts).1) = true := by rw [hbd.ok, decide_eq_true hbd.len]; rfl
                    have hq100 : ∀ x, x ∈ l → x.quota ≤ 100 := fun x hx => ((licencesB_of h5).2 x hx).q.2
                    have hq0 : ∀ x, x ∈ l → 0 ≤ x.quota := fun x hx => ((licencesB_of h5).2 x hx).q.1
                    have hrl := rich_lics (more := more) (by omega) h5
                    have hargr : dealArg b (l.map (richOf more)) ts = true := by unfold dealArg; rw [h4, hrl, h6]; rfl
                    have hrb := rich_best (b := b) (ts := ts) (more := more) (by omega) hq100
                    have hbest := hbd.best d (dealsB b l ts d).2 (by have h := h7; rw [Bool.and_eq_true, decide_eq_true_eq] at h; exact h.1) (by have h := h7; rw [Bool.and_eq_true] at h; exact h.2)
                    have hbgo := hbd.go
                    have hblen := hbd.len
                    have HDE := Lib.hid (fun w1 (h : Ext w w1) => Deal_ok (HBB.out w1 h) (HL.out w1 h) (HTT.out w1 h) harg)
                    have HDB := Lib.hid (fun w1 v1 (h : Ext w w1) (hv : IntsAt w1 v1 (dealOf b l ts).1) => Deals_ok (HBB.out w1 h) (HL.out w1 h) (HTT.out w1 h) hv hargb)
                    have HLB := Lib.hid (fun w1 v1 (h : Ext w w1) (hv : IntsAt w1 v1 (dealOf b l ts).1) => rlist_any _ _ _ l ts _ w1 (HL.out w1 h) (HTT.out w1 h) hv (by omega))
                    have HDD := Lib.hid (fun w1 (h : Ext w w1) => Deals_ok (HBB.out w1 h) (HL.out w1 h) (HTT.out w1 h) (HD.out w1 h) hargs)
                    have HDR := Lib.hid (fun w1 v1 (h : Ext w w1) (hv : RowOf licC w1 v1 (l.map (richOf more))) => Deal_ok (HBB.out w1 h) hv (HTT.out w1 h) hargr)
                    rw [hlib] at HLB
                    rw [hbgo] at HDB
                    clear hbd hargb hlib hargs harg hargr hrl hbgo
                    generalize dealOf b l ts = y at *
                    generalize dealOf b (l.map (richOf more)) ts = yr at *
                    generalize dealsB b l ts d = r at *
                    obtain ⟨y1, y2⟩ := y
                    obtain ⟨rx, rm⟩ := r
                    simp only at *
                    have t30 : decide ((9 : Int) < (y1.length : Int)) = false := by simp; omega
                    have hbest2 : rx = true → y2 ≤ rm ∧ (rm = y2 → befI d y1 = false) := fun h => hbest (by rw [h])
                    have HBST := Lib.hid hbest2
                    have HQ := Lib.hid (And.intro hq0 hq100)
                    clear hbest hbest2 hq0 hq100 hblen
                    go_enter Tryz.func9, Tryz.ntmps9
                    go_upto_region 3 with (first | (go_at_call 11; refine (HB.out.slim _ HX0.out).mono ?_; rintro e w1 ⟨rfl, hq⟩; obtain ⟨z0, z1⟩ := HS.out _ hq) | (go_at_call 32; refine (HST.out _ (HX0.out.trans hq)).mono ?_; rintro e w' ⟨rfl, rfl⟩) | (go_at_call 12; refine (HB.out.book _ (HX0.out.trans hq)).mono ?_; rintro e w1 ⟨rfl, hx1⟩; replace hq := hq.trans hx1; clear hx1 z0 z1; obtain ⟨z0, z1⟩ := HS.out _ hq) | (go_at_call 35; refine (HLC.out _ (HX0.out.trans hq)).mono ?_; rintro e w1 ⟨rfl, hx1⟩; replace hq := hq.trans hx1; clear hx1 z0 z1; obtain ⟨z0, z1⟩ := HS.out _ hq) | (go_at_call 36; refine (HTK.out _ (HX0.out.trans hq)).mono ?_; rintro e w1 ⟨rfl, hx1⟩; replace hq := hq.trans hx1; clear hx1 z0 z1; obtain ⟨z0, z1⟩ := HS.out _ hq) | (go_at_call 40; refine (HLI.out _ (HX0.out.trans hq)).mono ?_; rintro e w1 ⟨rfl, hx1⟩; replace hq := hq.trans hx1; clear hx1 z0 z1; obtain ⟨z0, z1⟩ := HS.out _ hq))
                    go_upto_region 4 with (go_at_call 34; refine (HDE.out _ (HX0.out.trans hq)).mono ?_; rintro e w2 ⟨a2, c2, rfl, hx1, hv2⟩; replace hq := hq.trans hx1; clear hx1 z0 z1; obtain ⟨z0, z1⟩ := HS.out _ hq)
                    have HV2 := Lib.hid hv2
                    have HXA := Lib.hid (HX0.out.trans hq)
                    have HSA := Lib.hid (fun W (h : Ext w2 W) => HS.out W (hq.trans h))
                    clear hv2 hq
                    have hq := Ext.refl w2
                    go_upto_region 6 with (go_at_call 40; refine (HLB.out _ _ (HXA.out.trans hq) (IntsAt.ext HV2.out hq)).mono ?_; rintro e w3 ⟨rfl, hx1⟩; replace hq := hq.trans hx1; clear hx1 z0 z1; obtain ⟨z0, z1⟩ := HSA.out _ hq)
                    go_upto_region 7 with (go_at_call 33; refine (HDB.out _ _ (HXA.out.trans hq) (IntsAt.ext HV2.out hq)).mono ?_; rintro e w4 ⟨rfl, hx1⟩; replace hq := hq.trans hx1; clear hx1 z0 z1; obtain ⟨z0, z1⟩ := HSA.out _ hq)
                    go_upto_region 8 with (go_at_call 33; refine (HDD.out _ (HXA.out.trans hq)).mono ?_; rintro e w5 ⟨rfl, hx1⟩; replace hq := hq.trans hx1; clear hx1 z0 z1; obtain ⟨z0, z1⟩ := HSA.out _ hq)
                    have HOW0 := Lib.hid (HL.out _ (HXA.out.trans hq))
                    clear z0 z1
                    go_upto_region 9 with (at_builtin; refine wpList_append_row E_lics rfl _ _ rfl w5.heap.size rfl (World.ownsRow_nil _ _ _ _) rfl HOW0.out (lics_len l) (lics_one l) ?_ (by unfold maxLen; omega) (by omega) (Nat.le_refl _); intro v6 w6 hown6 hgrow6 _)
                    have hx6 : Ext w5 w6 := Ext.grown (Ext.refl w5) hgrow6 (fun k hk => by cases hk)
                    simp only [Nat.zero_add, List.nil_append] at hown6
                    obtain ⟨va, vc, hv6, _⟩ := RowAt.open (RowAt.of_owns hown6)
                    subst hv6
                    have HOW6 : Hid (w6.ownsRow w5.heap.size 89 4 (.slice va l.length vc) l.length ((richTo more l 0).flatMap licC)) := hown6
                    clear hown6 hgrow6
                    go_wp2
                    go_loopw [21] (fun i wr => ∃ k : Nat, k ≤ l.length ∧ i = .int .i64 k ∧ Ext w5 wr ∧ Hid (wr.ownsRow w5.heap.size 89 4 (.slice va l.length vc) l.length ((richTo more l k).flatMap licC))) (fun i _ => l.length - (intOf i).toNat)
                    case atStart => exact ⟨0, Nat.zero_le _, rfl, hx6, HOW6⟩
                    case round =>
                      clear hx6 HOW6
                      obtain ⟨k, hk, rfl, hx6, hown⟩ := hrel
                      by_cases hlt : k < l.length
                      · have x2 : decide ((k : Int) < (l.length : Int)) = true := by simpa using hlt
                        have i1 : (0 : Int) ≤ (k : Int) := by omega
                        have i2 : (k : Int) < (l.length : Int) := by omega
                        obtain ⟨g, cap, hvg, hg1, hg2⟩ := owns_some hown.out hlt
                        injection hvg with e1 e2 e3
                        subst e1 e3
                        clear e2
                        obtain ⟨x, hxk⟩ : ∃ x, l[k]? = some x := ⟨_, List.getElem?_eq_getElem hlt⟩
                        have hcell : wr.cell? ⟨g, k * 4 + 3, none⟩ = some (.int .i64 x.quota) := by rw [hown.out.cellAt (k * 4 + 3) (by omega)]; exact lics_at _ _ _ (richTo_at hxk)
                        have hfro := hown.out.frozenAt (k * 4 + 3)
                        have hst := (hown.out.stored (k * 4 + 3) (.int .i64 (min 100 (x.quota + more)))).1
                        rw [lics_set _ _ _ _ (richTo_at hxk)] at hst
                        have hsu := richTo_succ (more := more) hxk
                        unfold richOf at hsu
                        rw [← hsu] at hst
                        have HST2 := Lib.hid hst
                        have hx7 := hx6.setCell (p := ⟨g, k * 4 + 3, none⟩) hg1 (.int .i64 (min 100 (x.quota + more)))
                        have HX7 := Lib.hid hx7
                        have hqx0 := HQ.out.1 x (List.mem_of_getElem? hxk)
                        have hqx1 := HQ.out.2 x (List.mem_of_getElem? hxk)
                        clear hst hsu hx7 hxk hx6
                        go_wp2
                        go_roundw
                        case rel => exact ⟨k + 1, by omega, by go_num, HX7.out, HST2⟩
                        case measure => simp [intOf]; omega
                      · have x2 : decide ((k : Int) < (l.length : Int)) = false := by simp; omega
                        have hke : k = l.length := by omega
                        subst hke
                        have hrow : RowOf licC wr (.slice va l.length vc) (l.map (richOf more)) := by
                          have h := RowAt.of_owns hown.out
                          rw [richTo_all] at h
                          unfold RowOf; rw [List.length_map]; exact h
                        have HROW := Lib.hid hrow
                        have hx3 := hq.trans hx6
                        obtain ⟨z0, z1⟩ := HSA.out _ hx3
                        clear hrow hown hx6 hq
                        go_upto_region 14 with (go_at_call 34; refine (HDR.out _ _ (HXA.out.trans hx3) HROW.out).mono ?_; rintro e w7 ⟨a7, c7, rfl, hx7, _⟩; clear z0 z1)
                        replace hx3 := hx3.trans hx7
                        clear hx7
                        have hq3 := Ext.refl w7
                        have t14 : decide (y2 < yr.2) = false := by simp; omega
                        have HBE := Lib.hid (fun w1 (h : Ext w2 w1) => rbefore_any _ _ d y1 w1 (HD.out w1 (HXA.out.trans h)) (IntsAt.ext HV2.out h))
                        cases rx with
                        | false =>
                          clear HBST
                          go_wp2_with (first | (go_at_call 42; refine (HBE.out _ (hx3.trans hq3)).mono ?_; rintro e w8 ⟨rfl, hx8⟩; replace hq3 := hq3.trans hx8; clear hx8) | (go_at_call 16; refine (HB.out.known _ (HXA.out.trans (hx3.trans hq3))).mono ?_; rintro e w9 ⟨rfl, hx9⟩))
                          go_ret
                          exact ⟨rfl, (HXA.out.trans (hx3.trans hq3)).trans hx9⟩
                        | true =>
                          obtain ⟨b1, b2⟩ := HBST.out rfl
                          by_cases h20 : y2 < rm
                          · have t20 : decide (y2 < rm) = true := by simpa using h20
                            clear HBST
                            go_wp2_with (first | (go_at_call 42; refine (HBE.out _ (hx3.trans hq3)).mono ?_; rintro e w8 ⟨rfl, hx8⟩; replace hq3 := hq3.trans hx8; clear hx8) | (go_at_call 16; refine (HB.out.known _ (HXA.out.trans (hx3.trans hq3))).mono ?_; rintro e w9 ⟨rfl, hx9⟩))
                            go_ret
                            exact ⟨rfl, (HXA.out.trans (hx3.trans hq3)).trans hx9⟩
                          · have h21 : rm = y2 := by omega
                            subst h21
                            rw [b2 rfl] at HBE
                            have t20 : decide (rm < rm) = false := by simp
                            clear b2
                            clear HBST
                            go_wp2_with (first | (go_at_call 42; refine (HBE.out _ (hx3.trans hq3)).mono ?_; rintro e w8 ⟨rfl, hx8⟩; replace hq3 := hq3.trans hx8; clear hx8) | (go_at_call 16; refine (HB.out.known _ (HXA.out.trans (hx3.trans hq3))).mono ?_; rintro e w9 ⟨rfl, hx9⟩))
                            go_ret
                            exact ⟨rfl, (HXA.out.trans (hx3.trans hq3)).trans hx9⟩
end Go.Proofs.YtabkfohbdfpdpaaGreatDoor
