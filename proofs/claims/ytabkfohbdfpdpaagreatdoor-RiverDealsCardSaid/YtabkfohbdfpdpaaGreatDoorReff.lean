/- The reference's deal, Deal. -/
import Derived.Test.YtabkfohbdfpdpaaGreatDoorRefe
namespace Go.Proofs.YtabkfohbdfpdpaaGreatDoor
open Go.RowKit

theorem restOf_take : ∀ (ts : List Take) (ns : List Int), restOf (ts.take ns.length) ns = restOf ts ns
  | [], ns => by rw [List.take_nil]
  | t :: ts, [] => rfl
  | t :: ts, n :: ns => by
    show (if n < 0 then t.many else 0) + restOf (ts.take ns.length) ns = (if n < 0 then t.many else 0) + restOf ts ns
    rw [restOf_take ts ns]
theorem restTo_all (ts : List Take) (d : List Int) : restTo ts d d.length = restOf ts d := by
  unfold restTo; rw [List.take_length]; exact restOf_take ts d
abbrev ltR (x y : DealS) : Bool := decide (x.2 < y.2)
def accOf (all : List Take) (best : List Int) (found : Bool) : Option DealS := if found then some (best, restOf all best) else none
def accTo (b : Book) (l : List Licence) (all rest : List Take) (now : List Int) (acc : Option DealS) (p : Nat) : Option DealS :=
  (((idxs l.length).take p).flatMap fun i => elist b l all rest (now ++ [i])).foldl (stepBest ltR) acc
theorem accTo_succ {b : Book} {l : List Licence} {all rest : List Take} {now : List Int} {acc : Option DealS} {p : Nat} (h : p < l.length + 1) :
    accTo b l all rest now acc (p + 1) = (elist b l all rest (now ++ [(p : Int) - 1])).foldl (stepBest ltR) (accTo b l all rest now acc p) := by
  unfold accTo
  have hp : (idxs l.length)[p]? = some ((p : Int) - 1) := by
    unfold idxs
    rw [List.getElem?_map, List.getElem?_range h]; rfl
  rw [List.take_add_one, hp, List.flatMap_append, List.foldl_append]
  simp
theorem accTo_all (b : Book) (l : List Licence) (all rest : List Take) (now : List Int) (acc : Option DealS) : accTo b l all rest now acc (l.length + 1) = ((idxs l.length).flatMap fun i => elist b l all rest (now ++ [i])).foldl (stepBest ltR) acc := by
  unfold accTo
  rw [List.take_of_length_le (by unfold idxs; simp)]
def RDealP (b : Book) (l : List Licence) (all : List Take) (v lv tv : Value) (w0 : World) (rest : List Take) : Prop :=
  ∀ (now best : List Int) (found : Bool) (w : World) (nowv bestv : Value), Ext w0 w → IntsAt w nowv now → IntsAt w bestv best → now.length + rest.length = all.length → (found = true → best.length = all.length) →
    Calls Tryz.prog 82 #[v, lv, tv, nowv, bestv, .bool found] w fun e w' => ∃ (a : Option Addr) (c : Nat) (best' : List Int) (found' : Bool), e = .returned (.tuple #[.slice a best'.length c, .bool found']) ∧ Ext w w' ∧ IntsAt w' (.slice a best'.length c) best' ∧ (found' = true → best'.length = all.length) ∧
      accOf all best' found' = (elist b l all rest now).foldl (stepBest ltR) (accOf all best found)
set_option maxRecDepth 100000 in
set_option maxHeartbeats 8000000 in
theorem rdeal_any (v lv tv : Value) (b : Book) (l : List Licence) (all : List Take) (w0 : World) (hb : BookAt w0 v b) (hB : BookB b) (hl : RowOf licC w0 lv l) (ht : RowOf takC w0 tv all) (hT : ∀ t, t ∈ all → TakB b t) (h6 : all.length ≤ 6) (hll : l.length ≤ 4) :
    ∀ rest : List Take, RDealP b l all v lv tv w0 rest
  | rest, now, best, found, w, nowv, bestv, hx0, hnow, hbest, hlen, hfb => by
    have IH : ∀ (t : Take) (rest' : List Take), rest = t :: rest' → RDealP b l all v lv tv w0 rest' := fun t rest' h => by
      subst h
      exact rdeal_any v lv tv b l all w0 hb hB hl ht hT h6 hll rest'
    have HDS := Lib.hid (fun w1 (h : Ext w w1) => rdeals_any v lv tv nowv b l all now w1 (hb.ext (hx0.trans h)) hB (RowOf.ext hl (hx0.trans h)) (RowOf.ext ht (hx0.trans h)) (IntsAt.ext hnow h) hT h6 (by omega))
    have HRN := Lib.hid (fun w1 (h : Ext w w1) => rrest_any tv nowv all now w1 (RowOf.ext ht (hx0.trans h)) (IntsAt.ext hnow h) (by omega) (fun t ht => (hT t ht).m) (by omega))
    have HRB := Lib.hid (fun w1 (h : Ext w w1) (hf : best.length = all.length) => rrest_any tv bestv all best w1 (RowOf.ext ht (hx0.trans h)) (IntsAt.ext hbest h) (by omega) (fun t ht => (hT t ht).m) (by omega))
    obtain ⟨ra, rc, rfl, _⟩ := hb.slice
    obtain ⟨la, lc, rfl, lc1, lc2, _⟩ := RowAt.open hl
    obtain ⟨ta, tc, rfl, tc1, tc2, _⟩ := RowAt.open ht
    obtain ⟨na, nc, rfl, nc1, nc2, _⟩ := hnow.open
    obtain ⟨ba, bc, rfl, bc1, bc2, _⟩ := hbest.open
    have HNOW := Lib.hid hnow
    have HBEST := Lib.hid hbest
    have HFB := Lib.hid hfb
    have HXW := Lib.hid hx0
    have HIH := Lib.hid IH
    have HX0 := Lib.hid ((Ext.refl w).alloc _ : Ext w (w.alloc (.cells #[.int .i64 b.years, .slice ra b.rivers.length rc] 24)))
    have HS := Lib.hid (fun W (h : Ext (w.alloc (.cells #[.int .i64 b.years, .slice ra b.rivers.length rc] 24)) W) => (⟨h.cell (by go_simp), h.cell (by go_simp)⟩ : W.cell? ⟨w.heap.size, 0, none⟩ = some (.int .i64 b.years) ∧ W.cell? ⟨w.heap.size, 1, none⟩ = some (.slice ra b.rivers.length rc)))
    clear hb hB hl ht hnow hbest hx0 hT IH hfb
    cases hds : rdealsB b l all now with
    | false =>
      rw [hds] at HDS
      have HN : Hid ((elist b l all rest now).foldl (stepBest ltR) (accOf all best found) = accOf all best found) := by
        unfold Hid; cases rest <;> (unfold elist; rw [hds]; rfl)
      clear hds
      go_enter Tryz.func82, Tryz.ntmps82
      go_wp2_with (go_at_call 41; refine (HDS.out _ HX0.out).mono ?_; rintro e w1 ⟨rfl, hq⟩)
      go_ret2
      exact ⟨ba, bc, best, found, rfl, HX0.out.trans hq, IntsAt.ext HBEST.out (HX0.out.trans hq), HFB.out, HN.out.symm⟩
    | true =>
      rw [hds] at HDS
      cases rest with
      | nil =>
        have hln : now.length = all.length := by simpa using hlen
        have t27 : ((now.length : Int) == (all.length : Int)) = true := by rw [beq_iff_eq]; omega
        have HLN := Lib.hid hln
        have HN : Hid ((elist b l all [] now).foldl (stepBest ltR) (accOf all best found) = stepBest ltR (accOf all best found) (now, restOf all now)) := by
          unfold Hid elist; rw [hds]; rfl
        clear hds hln hlen
        cases found with
        | false =>
          go_enter Tryz.func82, Tryz.ntmps82
          go_wp2_with (go_at_call 41; refine (HDS.out _ HX0.out).mono ?_; rintro e w1 ⟨rfl, hq⟩)
          go_ret2
          exact ⟨na, nc, now, true, rfl, HX0.out.trans hq, IntsAt.ext HNOW.out (HX0.out.trans hq), fun _ => HLN.out, by rw [HN.out]; rfl⟩
        | true =>
          have HR1 := Lib.hid (fun w1 (h : Ext w w1) => HRN.out w1 h)
          have HR2 := Lib.hid (fun w1 (h : Ext w w1) => HRB.out w1 h (HFB.out rfl))
          rw [restTo_all] at HR1 HR2
          clear HRN HRB
          by_cases hlt : restOf all now < restOf all best
          · have t37 : decide (restOf all now < restOf all best) = true := by simpa using hlt
            have HQ : Hid (stepBest ltR (accOf all best true) (now, restOf all now) = accOf all now true) := by
              show (if ltR (now, restOf all now) (best, restOf all best) then some (now, restOf all now) else some (best, restOf all best)) = some (now, restOf all now)
              rw [if_pos (by unfold ltR; exact t37)]
            clear hlt
            have tok : True := trivial
            go_enter Tryz.func82, Tryz.ntmps82
            go_wp2_with (first
              | (go_at_call 41; refine (HDS.out _ HX0.out).mono ?_; rintro e w1 ⟨rfl, hq⟩)
              | (go_at_call 39; have _t := tok; refine (HR1.out _ (HX0.out.trans hq)).mono ?_; rintro e w2 ⟨rfl, hx2⟩; replace hq := hq.trans hx2; clear hx2 tok _t)
              | (go_at_call 39; refine (HR2.out _ (HX0.out.trans hq)).mono ?_; rintro e w2 ⟨rfl, hx2⟩; replace hq := hq.trans hx2; clear hx2))
            go_ret2
            exact ⟨na, nc, now, true, rfl, HX0.out.trans hq, IntsAt.ext HNOW.out (HX0.out.trans hq), fun _ => HLN.out, by rw [HN.out, HQ.out]⟩
          · have t37 : decide (restOf all now < restOf all best) = false := by simpa using hlt
            have HQ : Hid (stepBest ltR (accOf all best true) (now, restOf all now) = accOf all best true) := by
              show (if ltR (now, restOf all now) (best, restOf all best) then some (now, restOf all now) else some (best, restOf all best)) = some (best, restOf all best)
              rw [if_neg (by unfold ltR; simpa using hlt)]
            clear hlt
            have tok : True := trivial
            go_enter Tryz.func82, Tryz.ntmps82
            go_wp2_with (first
              | (go_at_call 41; refine (HDS.out _ HX0.out).mono ?_; rintro e w1 ⟨rfl, hq⟩)
              | (go_at_call 39; have _t := tok; refine (HR1.out _ (HX0.out.trans hq)).mono ?_; rintro e w2 ⟨rfl, hx2⟩; replace hq := hq.trans hx2; clear hx2 tok _t)
              | (go_at_call 39; refine (HR2.out _ (HX0.out.trans hq)).mono ?_; rintro e w2 ⟨rfl, hx2⟩; replace hq := hq.trans hx2; clear hx2))
            go_ret2
            exact ⟨ba, bc, best, true, rfl, HX0.out.trans hq, IntsAt.ext HBEST.out (HX0.out.trans hq), fun _ => HFB.out (by trivial), by rw [HN.out, HQ.out]⟩
      | cons t rest =>
        have hln : now.length + (rest.length + 1) = all.length := by simpa using hlen
        have t27 : ((now.length : Int) == (all.length : Int)) = false := by rw [beq_eq_false_iff_ne]; omega
        have HLN := Lib.hid hln
        have hn6 : now.length ≤ 5 := by omega
        have HSZ := Lib.hid (show 0 + now.length ≤ maxLen ∧ (0 + now.length) * 8 ≤ 140737488355328 ∧ now.length + 1 ≤ maxLen ∧ (now.length + 1) * 8 ≤ 140737488355328 by unfold maxLen; omega)
        have HN : Hid ((elist b l all (t :: rest) now).foldl (stepBest ltR) (accOf all best found) = accTo b l all rest now (accOf all best found) (l.length + 1)) := by
          unfold Hid; rw [accTo_all]; show List.foldl _ _ (if rdealsB b l all now = true then _ else _) = _; rw [if_pos hds]
        have HREC := Lib.hid (HIH.out t rest rfl)
        clear hds hln hlen HRN HRB HIH
        go_enter Tryz.func82, Tryz.ntmps82
        go_upto_region 7 with (go_at_call 41; refine (HDS.out _ HX0.out).mono ?_; rintro e w1 ⟨rfl, hq⟩)
        go_wp2
        go_loopw [4, 5, 14] (fun bv fv i wr => ∃ (p : Nat) (a : Option Addr) (c : Nat) (best' : List Int) (found' : Bool), p ≤ l.length + 1 ∧ i = .int .i64 ((p : Int) - 1) ∧ bv = .slice a best'.length c ∧ fv = .bool found' ∧ Ext (w.alloc (.cells #[.int .i64 b.years, .slice ra b.rivers.length rc] 24)) wr ∧ Hid (IntsAt wr (.slice a best'.length c) best') ∧ Hid (found' = true → best'.length = all.length) ∧ Hid (accOf all best' found' = accTo b l all rest now (accOf all best found) p)) (fun _ _ i _ => l.length + 1 - (intOf i + 1).toNat)
        case atStart => exact ⟨0, ba, bc, best, found, Nat.zero_le _, rfl, rfl, rfl, hq, IntsAt.ext HBEST.out (HX0.out.trans hq), HFB.out, rfl⟩
        case round =>
          clear hq
          obtain ⟨p, ka, kc, kb, kf, hp, rfl, rfl, rfl, hx, hkb, hkf, hacc⟩ := hrel
          by_cases hlt : p < l.length + 1
          · have x2 : decide ((p : Int) - 1 < (l.length : Int)) = true := by simp; omega
            have HSE := Lib.hid (fun W (h : Ext wr W) => HS.out W (hx.trans h))
            have HXR := Lib.hid (HX0.out.trans hx)
            have hsu := accTo_succ (b := b) (all := all) (rest := rest) (now := now) (acc := accOf all best found) hlt
            rw [← hacc.out] at hsu
            have HSU := Lib.hid hsu
            clear hsu hacc
            go_upto_region 10 with fail
            refine wp_region_held_drew (S := (fun W' => W'.cell? ⟨w.heap.size, 0, none⟩ = some (.int .i64 b.years) ∧ W'.cell? ⟨w.heap.size, 1, none⟩ = some (.slice ra b.rivers.length rc))) (by kernel_rfl) ?_ (fun hHeld => ?_)
            · exact HSE.out _ (by repeat (first | exact hxe | exact Ext.refl _ | apply Ext.drew | apply Ext.alloc))
            refine held_take (i := 0) (d := some 49) (v := ?_) (by kernel_rfl) (by kernel_rfl) (by kernel_rfl) (by kernel_rfl) (fun _ _ _ h => h) (fun o ho => ?_) hHeld ?_
            rotate_left
            · simp only [List.getElem?_toArray, List.getElem?_cons_zero, Option.some.injEq] at ho
              subst ho
              refine ⟨by rfl, fun w hSw => ?_⟩
              (try dsimp only at hSw)
              go_simp
              try with_reducible rfl
            try simp only [Act.put, List.setIfInBounds_toArray, List.set_cons_zero, List.set_cons_succ]
            refine held_take (i := 1) (d := some 50) (v := ?_) (by kernel_rfl) (by kernel_rfl) (by kernel_rfl) (by kernel_rfl) (fun _ _ _ h => h) (fun o ho => ?_) hHeld ?_
            rotate_left
            · simp only [List.getElem?_toArray, List.getElem?_cons_zero, List.getElem?_cons_succ, Option.some.injEq] at ho
              subst ho
              refine ⟨by rfl, fun w hSw => ?_⟩
              (try dsimp only at hSw)
              go_simp
              try with_reducible rfl
            try simp only [Act.put, List.setIfInBounds_toArray, List.set_cons_zero, List.set_cons_succ]
            refine held_take (i := 2) (d := some 51) (v := ?_) (by kernel_rfl) (by kernel_rfl) (by kernel_rfl) (by kernel_rfl) (fun _ _ _ h => h) (fun o ho => ?_) hHeld ?_
            rotate_left
            · simp only [List.getElem?_toArray, List.getElem?_cons_zero, List.getElem?_cons_succ, Option.some.injEq] at ho
              subst ho
              refine ⟨by rfl, fun w hSw => ?_⟩
              (try dsimp only at hSw)
              go_simp
              try with_reducible rfl
            try simp only [Act.put, List.setIfInBounds_toArray, List.set_cons_zero, List.set_cons_succ]
            refine held_take (i := 3) (d := some 52) (v := ?_) (by kernel_rfl) (by kernel_rfl) (by kernel_rfl) (by kernel_rfl) (fun _ _ _ h => h) (fun o ho => ?_) hHeld ?_
            rotate_left
            · simp only [List.getElem?_toArray, List.getElem?_cons_zero, List.getElem?_cons_succ, Option.some.injEq] at ho
              subst ho
              refine ⟨by rfl, fun w hSw => ?_⟩
              (try dsimp only at hSw)
              go_simp
              try with_reducible rfl
            try simp only [Act.put, List.setIfInBounds_toArray, List.set_cons_zero, List.set_cons_succ]
            refine held_take (i := 5) (d := some 54) (v := ?_) (by kernel_rfl) (by kernel_rfl) (by kernel_rfl) (by kernel_rfl) (fun _ _ _ h => h) (fun o ho => ?_) hHeld ?_
            rotate_left
            · simp only [List.getElem?_toArray, List.getElem?_cons_zero, List.getElem?_cons_succ, Option.some.injEq] at ho
              subst ho
              refine ⟨by rfl, fun w hSw => ?_⟩
              (try dsimp only at hSw)
              go_simp
              try with_reducible rfl
            try simp only [Act.put, List.setIfInBounds_toArray, List.set_cons_zero, List.set_cons_succ]
            refine held_take (i := 8) (d := some 57) (v := ?_) (by kernel_rfl) (by kernel_rfl) (by kernel_rfl) (by kernel_rfl) (fun _ _ _ h => h) (fun o ho => ?_) hHeld ?_
            rotate_left
            · simp only [List.getElem?_toArray, List.getElem?_cons_zero, List.getElem?_cons_succ, Option.some.injEq] at ho
              subst ho
              refine ⟨by rfl, fun w hSw => ?_⟩
              (try dsimp only at hSw)
              go_simp
              try with_reducible rfl
            try simp only [Act.put, List.setIfInBounds_toArray, List.set_cons_zero, List.set_cons_succ]
            refine held_take (i := 9) (d := some 58) (v := ?_) (by kernel_rfl) (by kernel_rfl) (by kernel_rfl) (by kernel_rfl) (fun _ _ _ h => h) (fun o ho => ?_) hHeld ?_
            rotate_left
            · simp only [List.getElem?_toArray, List.getElem?_cons_zero, List.getElem?_cons_succ, Option.some.injEq] at ho
              subst ho
              refine ⟨by rfl, fun w hSw => ?_⟩
              (try dsimp only at hSw)
              go_simp
              try with_reducible rfl
            try simp only [Act.put, List.setIfInBounds_toArray, List.set_cons_zero, List.set_cons_succ]
            refine wpAnyH_ready (rs := [4, 6]) (by kernel_rfl) (by simp) ?_
            refine held_step (i := 4) (by kernel_rfl) (fun o ho K' hK => ?_) ?_
            · simp only [List.getElem?_toArray, List.getElem?_cons_zero, List.getElem?_cons_succ, Option.some.injEq] at ho
              subst ho
              have hlow : wr.heap.size ≤ wr.drew.heap.size := (by repeat (first | exact Ext.refl _ | apply Ext.drew | apply Ext.alloc) : Ext wr wr.drew).size
              have hrow : RowAt wr.drew (.slice na now.length nc) now.length (now.map (.int .i64)) := IntsAt.ext HNOW.out (HXR.out.trans (by repeat (first | exact Ext.refl _ | apply Ext.drew | apply Ext.alloc)))
              refine step_append_row E_ints (by rfl) _ _ (by rfl) wr.drew.heap.size (by rfl) (World.ownsRow_nil _ _ _ _) (by rfl) hrow (by simp) (ints_one now) HSZ.out.1 HSZ.out.2.1 (Nat.le_refl _) ?_
              intro v1 w1 own1 hgr1 _
              simp only [Nat.zero_add, List.nil_append] at own1
              have hx1 : Ext wr.drew w1 := Ext.grown (Ext.refl _) hgr1 (fun k hk => by cases hk)
              have hxe : Ext wr w1 := (by repeat (first | exact Ext.refl _ | apply Ext.drew | apply Ext.alloc) : Ext wr wr.drew).trans hx1
              obtain ⟨ca, cc, rfl, _⟩ := RowAt.open (RowAt.of_owns own1)
              clear hrow hgr1
              refine hK.out _ _ ?_ (fun hHeld => ?_)
              · exact HSE.out _ (by repeat (first | exact hxe | exact Ext.refl _ | apply Ext.drew | apply Ext.alloc))
              clear hK K'
              refine wpAnyH_ready (rs := [6]) (by kernel_rfl) (by simp) ?_
              refine held_step (i := 6) (by kernel_rfl) (fun o ho K' hK => ?_) ?_
              · simp only [List.getElem?_toArray, List.getElem?_cons_zero, List.getElem?_cons_succ, Option.some.injEq] at ho
                subst ho
                go_simp
                refine hK.out _ _ ?_ (fun hHeld => ?_)
                · exact HSE.out _ (by repeat (first | exact hxe | exact Ext.refl _ | apply Ext.drew | apply Ext.alloc))
                clear hK K'
                try simp only [List.setIfInBounds_toArray, List.set_cons_zero, List.set_cons_succ]
                refine wpAnyH_ready (rs := [7]) (by kernel_rfl) (by simp) ?_
                refine held_step (i := 7) (by kernel_rfl) (fun o ho K' hK => ?_) ?_
                · simp only [List.getElem?_toArray, List.getElem?_cons_zero, List.getElem?_cons_succ, Option.some.injEq] at ho
                  subst ho
                  refine step_append_row E_ints (by rfl) _ _ (by rfl) _ (by rfl) (own1.alloc (Obj.cells #[.int .i64 ((p : Int) - 1)] 3)) (by rfl) (RowAt.new1 w1 #[.int .i64 ((p : Int) - 1)] 3) (by rfl) (by simp [Value.oneCell']) HSZ.out.2.2.1 HSZ.out.2.2.2 (Nat.le_trans hx1.size ((Ext.refl w1).alloc _).size) ?_
                  intro v2 w2 hown2 hgrow _
                  have hx02 : Ext wr w2 := Ext.grown (hxe.alloc _) hgrow (fun k hk => Nat.le_trans hlow (owns_block own1 k hk))
                  have hn2 : IntsAt w2 v2 (now ++ [(p : Int) - 1]) := by have h := RowAt.of_owns hown2; unfold IntsAt; simpa using h
                  have HN2 := Lib.hid hn2
                  obtain ⟨a2, c2, rfl, _⟩ := RowAt.open (RowAt.of_owns hown2)
                  clear hxe hn2
                  have hxe := hx02
                  clear hx02 hown2 hgrow own1
                  refine hK.out _ _ ?_ (fun hHeld => ?_)
                  · exact HSE.out _ (by repeat (first | exact hxe | exact Ext.refl _ | apply Ext.drew | apply Ext.alloc))
                  clear hK K'
                  refine wpAnyH_ready (rs := [10]) (by kernel_rfl) (by simp) ?_
                  refine held_step (i := 10) (by kernel_rfl) (fun o ho K' hK => ?_) ?_
                  · simp only [List.getElem?_toArray, List.getElem?_cons_zero, List.getElem?_cons_succ, Option.some.injEq] at ho
                    subst ho
                    go_simp
                    go_at_call 82
                    refine (HREC.out _ _ _ _ _ _ (HXW.out.trans (HXR.out.trans hxe)) HN2.out (IntsAt.ext hkb.out hxe) (by have := HLN.out; simp; omega) hkf.out).mono ?_
                    rintro e w3 ⟨a3, c3, b3, f3, rfl, hx3, hv3, hf3, hacc3⟩
                    have hxe3 := hxe.trans hx3
                    clear hxe
                    have hxe := hxe3
                    have HV3 := Lib.hid hv3
                    have HF3 := Lib.hid hf3
                    have HA3 := Lib.hid (hacc3.trans HSU.out.symm)
                    clear hx3 hv3 hf3 hacc3 hxe3
                    try go_simp
                    refine hK.out _ _ ?_ (fun hHeld => ?_)
                    · exact HSE.out _ (by repeat (first | exact hxe | exact Ext.refl _ | apply Ext.drew | apply Ext.alloc))
                    clear hK K'
                    try simp only [List.setIfInBounds_toArray, List.set_cons_zero, List.set_cons_succ]
                    refine held_take (i := 11) (d := some 48) (v := ?_) (by kernel_rfl) (by kernel_rfl) (by kernel_rfl) (by kernel_rfl) (fun _ _ _ h => h) (fun o ho => ?_) hHeld ?_
                    rotate_left
                    · simp only [List.getElem?_toArray, List.getElem?_cons_zero, List.getElem?_cons_succ, Option.some.injEq] at ho
                      subst ho
                      refine ⟨by rfl, fun w hSw => ?_⟩
                      (try dsimp only at hSw)
                      go_simp
                      try with_reducible rfl
                    try simp only [Act.put, List.setIfInBounds_toArray, List.set_cons_zero, List.set_cons_succ]
                    refine held_take (i := 12) (d := some 60) (v := ?_) (by kernel_rfl) (by kernel_rfl) (by kernel_rfl) (by kernel_rfl) (fun _ _ _ h => h) (fun o ho => ?_) hHeld ?_
                    rotate_left
                    · simp only [List.getElem?_toArray, List.getElem?_cons_zero, List.getElem?_cons_succ, Option.some.injEq] at ho
                      subst ho
                      refine ⟨by rfl, fun w hSw => ?_⟩
                      (try dsimp only at hSw)
                      go_simp
                      try with_reducible rfl
                    try simp only [Act.put, List.setIfInBounds_toArray, List.set_cons_zero, List.set_cons_succ]
                    refine held_take (i := 13) (d := some 61) (v := ?_) (by kernel_rfl) (by kernel_rfl) (by kernel_rfl) (by kernel_rfl) (fun _ _ _ h => h) (fun o ho => ?_) hHeld ?_
                    rotate_left
                    · simp only [List.getElem?_toArray, List.getElem?_cons_zero, List.getElem?_cons_succ, Option.some.injEq] at ho
                      subst ho
                      refine ⟨by rfl, fun w hSw => ?_⟩
                      (try dsimp only at hSw)
                      go_simp
                      try with_reducible rfl
                    try simp only [Act.put, List.setIfInBounds_toArray, List.set_cons_zero, List.set_cons_succ]
                    refine wpAnyH_ready (rs := [14]) (by kernel_rfl) (by simp) ?_
                    refine held_step (i := 14) (by kernel_rfl) (fun o ho K' hK => ?_) ?_
                    · simp only [List.getElem?_toArray, List.getElem?_cons_zero, List.getElem?_cons_succ, Option.some.injEq] at ho
                      subst ho
                      go_simp
                      refine hK.out _ _ ?_ (fun hHeld => ?_)
                      · exact HSE.out _ (by repeat (first | exact hxe | exact Ext.refl _ | apply Ext.drew | apply Ext.alloc))
                      clear hK K'
                      try simp only [List.setIfInBounds_toArray, List.set_cons_zero, List.set_cons_succ]
                      refine wpAnyH_ready (rs := [15]) (by kernel_rfl) (by simp) ?_
                      refine held_step (i := 15) (by kernel_rfl) (fun o ho K' hK => ?_) ?_
                      · simp only [List.getElem?_toArray, List.getElem?_cons_zero, List.getElem?_cons_succ, Option.some.injEq] at ho
                        subst ho
                        go_simp
                        refine hK.out _ _ ?_ (fun hHeld => ?_)
                        · exact HSE.out _ (by repeat (first | exact hxe | exact Ext.refl _ | apply Ext.drew | apply Ext.alloc))
                        clear hK K'
                        try simp only [List.setIfInBounds_toArray, List.set_cons_zero, List.set_cons_succ]
                        refine wpAnyH_done (by kernel_rfl) ?_ _
                        try simp only [List.setIfInBounds_toArray, List.set_cons_zero, List.set_cons_succ]
                        clear hHeld
                        go_wp2_with fail
                        go_roundw
                        case rel => exact ⟨p + 1, a3, c3, b3, f3, by omega, by go_num, rfl, rfl, hx.trans hxe, HV3.out, HF3.out, HA3.out⟩
                        case measure => simp [intOf]; omega
                      exact AllReadyH.nil
                    exact AllReadyH.nil
                  exact AllReadyH.nil
                exact AllReadyH.nil
              exact AllReadyH.nil
            refine held_step (i := 6) (by kernel_rfl) (fun o ho K' hK => ?_) ?_
            · simp only [List.getElem?_toArray, List.getElem?_cons_zero, List.getElem?_cons_succ, Option.some.injEq] at ho
              subst ho
              go_simp
              refine hK.out _ _ ?_ (fun hHeld => ?_)
              · exact HSE.out _ (by repeat (first | exact hxe | exact Ext.refl _ | apply Ext.drew | apply Ext.alloc))
              clear hK K'
              try simp only [List.setIfInBounds_toArray, List.set_cons_zero, List.set_cons_succ]
              refine wpAnyH_ready (rs := [4]) (by kernel_rfl) (by simp) ?_
              refine held_step (i := 4) (by kernel_rfl) (fun o ho K' hK => ?_) ?_
              · simp only [List.getElem?_toArray, List.getElem?_cons_zero, List.getElem?_cons_succ, Option.some.injEq] at ho
                subst ho
                have hlow : wr.heap.size ≤ (wr.drew.alloc (.cells #[.int .i64 ((p : Int) - 1)] 3)).heap.size := (by repeat (first | exact Ext.refl _ | apply Ext.drew | apply Ext.alloc) : Ext wr (wr.drew.alloc (.cells #[.int .i64 ((p : Int) - 1)] 3))).size
                have hrow : RowAt (wr.drew.alloc (.cells #[.int .i64 ((p : Int) - 1)] 3)) (.slice na now.length nc) now.length (now.map (.int .i64)) := IntsAt.ext HNOW.out (HXR.out.trans (by repeat (first | exact Ext.refl _ | apply Ext.drew | apply Ext.alloc)))
                refine step_append_row E_ints (by rfl) _ _ (by rfl) (wr.drew.alloc (.cells #[.int .i64 ((p : Int) - 1)] 3)).heap.size (by rfl) (World.ownsRow_nil _ _ _ _) (by rfl) hrow (by simp) (ints_one now) HSZ.out.1 HSZ.out.2.1 (Nat.le_refl _) ?_
                intro v1 w1 own1 hgr1 _
                simp only [Nat.zero_add, List.nil_append] at own1
                have hx1 : Ext (wr.drew.alloc (.cells #[.int .i64 ((p : Int) - 1)] 3)) w1 := Ext.grown (Ext.refl _) hgr1 (fun k hk => by cases hk)
                have hxe : Ext wr w1 := (by repeat (first | exact Ext.refl _ | apply Ext.drew | apply Ext.alloc) : Ext wr (wr.drew.alloc (.cells #[.int .i64 ((p : Int) - 1)] 3))).trans hx1
                obtain ⟨ca, cc, rfl, _⟩ := RowAt.open (RowAt.of_owns own1)
                clear hrow hgr1
                refine hK.out _ _ ?_ (fun hHeld => ?_)
                · exact HSE.out _ (by repeat (first | exact hxe | exact Ext.refl _ | apply Ext.drew | apply Ext.alloc))
                clear hK K'
                refine wpAnyH_ready (rs := [7]) (by kernel_rfl) (by simp) ?_
                refine held_step (i := 7) (by kernel_rfl) (fun o ho K' hK => ?_) ?_
                · simp only [List.getElem?_toArray, List.getElem?_cons_zero, List.getElem?_cons_succ, Option.some.injEq] at ho
                  subst ho
                  refine step_append_row E_ints (by rfl) _ _ (by rfl) _ (by rfl) own1 (by rfl) ((RowAt.new1 wr.drew #[.int .i64 ((p : Int) - 1)] 3).ext hx1) (by rfl) (by simp [Value.oneCell']) HSZ.out.2.2.1 HSZ.out.2.2.2 hx1.size ?_
                  intro v2 w2 hown2 hgrow _
                  have hx02 : Ext wr w2 := Ext.grown hxe hgrow (fun k hk => Nat.le_trans hlow (owns_block own1 k hk))
                  have hn2 : IntsAt w2 v2 (now ++ [(p : Int) - 1]) := by have h := RowAt.of_owns hown2; unfold IntsAt; simpa using h
                  have HN2 := Lib.hid hn2
                  obtain ⟨a2, c2, rfl, _⟩ := RowAt.open (RowAt.of_owns hown2)
                  clear hxe hn2
                  have hxe := hx02
                  clear hx02 hown2 hgrow own1
                  refine hK.out _ _ ?_ (fun hHeld => ?_)
                  · exact HSE.out _ (by repeat (first | exact hxe | exact Ext.refl _ | apply Ext.drew | apply Ext.alloc))
                  clear hK K'
                  refine wpAnyH_ready (rs := [10]) (by kernel_rfl) (by simp) ?_
                  refine held_step (i := 10) (by kernel_rfl) (fun o ho K' hK => ?_) ?_
                  · simp only [List.getElem?_toArray, List.getElem?_cons_zero, List.getElem?_cons_succ, Option.some.injEq] at ho
                    subst ho
                    go_simp
                    go_at_call 82
                    refine (HREC.out _ _ _ _ _ _ (HXW.out.trans (HXR.out.trans hxe)) HN2.out (IntsAt.ext hkb.out hxe) (by have := HLN.out; simp; omega) hkf.out).mono ?_
                    rintro e w3 ⟨a3, c3, b3, f3, rfl, hx3, hv3, hf3, hacc3⟩
                    have hxe3 := hxe.trans hx3
                    clear hxe
                    have hxe := hxe3
                    have HV3 := Lib.hid hv3
                    have HF3 := Lib.hid hf3
                    have HA3 := Lib.hid (hacc3.trans HSU.out.symm)
                    clear hx3 hv3 hf3 hacc3 hxe3
                    try go_simp
                    refine hK.out _ _ ?_ (fun hHeld => ?_)
                    · exact HSE.out _ (by repeat (first | exact hxe | exact Ext.refl _ | apply Ext.drew | apply Ext.alloc))
                    clear hK K'
                    try simp only [List.setIfInBounds_toArray, List.set_cons_zero, List.set_cons_succ]
                    refine held_take (i := 11) (d := some 48) (v := ?_) (by kernel_rfl) (by kernel_rfl) (by kernel_rfl) (by kernel_rfl) (fun _ _ _ h => h) (fun o ho => ?_) hHeld ?_
                    rotate_left
                    · simp only [List.getElem?_toArray, List.getElem?_cons_zero, List.getElem?_cons_succ, Option.some.injEq] at ho
                      subst ho
                      refine ⟨by rfl, fun w hSw => ?_⟩
                      (try dsimp only at hSw)
                      go_simp
                      try with_reducible rfl
                    try simp only [Act.put, List.setIfInBounds_toArray, List.set_cons_zero, List.set_cons_succ]
                    refine held_take (i := 12) (d := some 60) (v := ?_) (by kernel_rfl) (by kernel_rfl) (by kernel_rfl) (by kernel_rfl) (fun _ _ _ h => h) (fun o ho => ?_) hHeld ?_
                    rotate_left
                    · simp only [List.getElem?_toArray, List.getElem?_cons_zero, List.getElem?_cons_succ, Option.some.injEq] at ho
                      subst ho
                      refine ⟨by rfl, fun w hSw => ?_⟩
                      (try dsimp only at hSw)
                      go_simp
                      try with_reducible rfl
                    try simp only [Act.put, List.setIfInBounds_toArray, List.set_cons_zero, List.set_cons_succ]
                    refine held_take (i := 13) (d := some 61) (v := ?_) (by kernel_rfl) (by kernel_rfl) (by kernel_rfl) (by kernel_rfl) (fun _ _ _ h => h) (fun o ho => ?_) hHeld ?_
                    rotate_left
                    · simp only [List.getElem?_toArray, List.getElem?_cons_zero, List.getElem?_cons_succ, Option.some.injEq] at ho
                      subst ho
                      refine ⟨by rfl, fun w hSw => ?_⟩
                      (try dsimp only at hSw)
                      go_simp
                      try with_reducible rfl
                    try simp only [Act.put, List.setIfInBounds_toArray, List.set_cons_zero, List.set_cons_succ]
                    refine wpAnyH_ready (rs := [14]) (by kernel_rfl) (by simp) ?_
                    refine held_step (i := 14) (by kernel_rfl) (fun o ho K' hK => ?_) ?_
                    · simp only [List.getElem?_toArray, List.getElem?_cons_zero, List.getElem?_cons_succ, Option.some.injEq] at ho
                      subst ho
                      go_simp
                      refine hK.out _ _ ?_ (fun hHeld => ?_)
                      · exact HSE.out _ (by repeat (first | exact hxe | exact Ext.refl _ | apply Ext.drew | apply Ext.alloc))
                      clear hK K'
                      try simp only [List.setIfInBounds_toArray, List.set_cons_zero, List.set_cons_succ]
                      refine wpAnyH_ready (rs := [15]) (by kernel_rfl) (by simp) ?_
                      refine held_step (i := 15) (by kernel_rfl) (fun o ho K' hK => ?_) ?_
                      · simp only [List.getElem?_toArray, List.getElem?_cons_zero, List.getElem?_cons_succ, Option.some.injEq] at ho
                        subst ho
                        go_simp
                        refine hK.out _ _ ?_ (fun hHeld => ?_)
                        · exact HSE.out _ (by repeat (first | exact hxe | exact Ext.refl _ | apply Ext.drew | apply Ext.alloc))
                        clear hK K'
                        try simp only [List.setIfInBounds_toArray, List.set_cons_zero, List.set_cons_succ]
                        refine wpAnyH_done (by kernel_rfl) ?_ _
                        try simp only [List.setIfInBounds_toArray, List.set_cons_zero, List.set_cons_succ]
                        clear hHeld
                        go_wp2_with fail
                        go_roundw
                        case rel => exact ⟨p + 1, a3, c3, b3, f3, by omega, by go_num, rfl, rfl, hx.trans hxe, HV3.out, HF3.out, HA3.out⟩
                        case measure => simp [intOf]; omega
                      exact AllReadyH.nil
                    exact AllReadyH.nil
                  exact AllReadyH.nil
                exact AllReadyH.nil
              exact AllReadyH.nil
            exact AllReadyH.nil
          · have x2 : decide ((p : Int) - 1 < (l.length : Int)) = false := by simp; omega
            have hpe : p = l.length + 1 := by omega
            subst hpe
            have HA := Lib.hid (hacc.out.trans HN.out.symm)
            go_wp2
            go_ret2
            exact ⟨ka, kc, kb, kf, rfl, HX0.out.trans hx, hkb.out, hkf.out, HA.out⟩
termination_by rest => rest.length
decreasing_by all_goals (subst_vars; simp)
theorem rDeal_any (v lv tv : Value) (b : Book) (l : List Licence) (all : List Take) (w : World) (hb : BookAt w v b) (hB : BookB b) (hl : RowOf licC w lv l) (ht : RowOf takC w tv all) (hT : ∀ t, t ∈ all → TakB b t) (h6 : all.length ≤ 6) (hll : l.length ≤ 4) (hq : ∀ x, x ∈ l → 0 ≤ x.quota) :
    Calls Tryz.prog 37 #[v, lv, tv] w fun e w' => ∃ (a : Option Addr) (c : Nat), e = .returned (.slice a (dealOf b l all).1.length c) ∧ Ext w w' ∧ IntsAt w' (.slice a (dealOf b l all).1.length c) (dealOf b l all).1 := by
  have HD := Lib.hid (fun w1 (h : Ext w w1) => rdeal_any v lv tv b l all w hb hB hl ht hT h6 hll all [] [] false w1 (.slice none 0 0) (.slice none 0 0) h (IntsAt.nil _) (IntsAt.nil _) (by simp) (fun h => by cases h))
  have HE := Lib.hid (elist_best (b := b) (l := l) (ts := all) (fun t ht => (hT t ht).m.1) hq)
  obtain ⟨ra, rc, rfl, _⟩ := hb.slice
  obtain ⟨la, lc, rfl, _⟩ := RowAt.open hl
  obtain ⟨ta, tc, rfl, _⟩ := RowAt.open ht
  have HX0 := Lib.hid ((Ext.refl w).alloc _ : Ext w (w.alloc (.cells #[.int .i64 b.years, .slice ra b.rivers.length rc] 24)))
  clear hb hl ht hT hB
  go_enter Tryz.func37, Tryz.ntmps37
  go_wp2_with (go_at_call 82; refine (HD.out _ HX0.out).mono ?_; rintro e w1 ⟨a, c, best, found, rfl, hx1, hv1, _, hacc⟩; have HV1 := Lib.hid hv1; have HACC := Lib.hid hacc; clear hv1 hacc)
  go_ret
  have h1 : accOf all best found = some (dealOf b l all) := HACC.out.trans HE.out
  have h2 : best = (dealOf b l all).1 := by
    unfold accOf at h1
    cases found with
    | false => cases h1
    | true => injection h1 with h; rw [← h]
  subst h2
  exact ⟨a, c, rfl, HX0.out.trans hx1, HV1.out⟩
end Go.Proofs.YtabkfohbdfpdpaaGreatDoor
