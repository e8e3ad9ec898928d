/- Truths as values; the law's short, the reference's Truth. -/
import Derived.Test.YtnhpibnneidmgaaGreatDoorOpen
import Derived.Test.YtnhpibnneidmgaaGreatDoorLen
namespace Go.Proofs.YtnhpibnneidmgaaGreatDoor
open Go.RowKit
structure Truth where
 wea : List (List Int)
 org : List Org
def TruthAt (w : World) (v : Value) (x : Truth) : Prop := ∃ wv ov, v = .agg #[wv, ov] ∧ IntRowsAt w wv x.wea ∧ PairsAt w ov x.org
theorem TruthAt.ext {w w' : World} {v : Value} {x : Truth} (h : TruthAt w v x) (k : Ext w w') : TruthAt w' v x := by
 obtain ⟨wv, ov, h1, h2, h3⟩ := h
 exact ⟨wv, ov, h1, h2.ext k, h3.ext k⟩
theorem IntRowsAt.open {w : World} {v : Value} {xss : List (List Int)} (h : IntRowsAt w v xss) : ∃ a c, v = .slice a xss.length c ∧ xss.length ≤ c ∧ c ≤ 9223372036854775807 ∧
  ∀ i, i < xss.length → ∃ b o rv r, a = some ⟨b, o, none⟩ ∧ Hid (xss[i]? = some r) ∧ w.cell? ⟨b, o + i, none⟩ = some rv ∧ IntsAt w rv r := by
 obtain ⟨xs, rfl, h2, h3⟩ := h
 obtain ⟨a, c, hv, l1, l2, l3⟩ := RowOf.key (n := 1) (fun _ => rfl) (by omega) h2
 refine ⟨a, c, by rw [hv]; simp, by simpa using l1, l2, fun i hi => ?_⟩
 obtain ⟨b, o, x, ha, hx, hc⟩ := l3 i (by simpa using hi)
 exact ⟨b, o, x.1, x.2, ha, by unfold Hid; rw [List.getElem?_map, hx.out]; rfl, by have := hc 0 x.1 (by omega) rfl; simpa using this, h3 x (List.mem_of_getElem? hx.out)⟩
def shortB (x : Truth) : Bool := !(x.wea.take 6).any (fun r => decide (8 < r.length)) && decide (x.wea.length ≤ 5) && decide (x.org.length ≤ 7)
def truthB (b : Book) (s : Sack) (x : Truth) : Bool := !x.wea.any (fun r => decide ((r.length : Int) ≠ b.years)) && decide (x.wea.length = b.rivers.length) && decide (x.org.length = s.shells.length)
set_option maxRecDepth 100000 in
set_option maxHeartbeats 4000000 in
theorem short_any (v : Value) (x : Truth) (w : World) (hx : TruthAt w v x) : Calls Tryz.prog 37 #[v] w fun e w' => e = .returned (.bool (shortB x)) ∧ Ext w w' := by
 obtain ⟨wv, ov, rfl, hw, ho⟩ := hx
 obtain ⟨wa, wc, rfl, h1, h2, h3⟩ := hw.open
 obtain ⟨oa, oc, rfl, o1, o2, _⟩ := ho.open
 have HH := Lib.hid h3
 have HX0 := Lib.hid ((Ext.refl w).alloc (.cells #[.slice wa x.wea.length wc, .slice oa x.org.length oc] 81))
 clear h3 hw ho
 go_enter Tryz.func37, Tryz.ntmps37
 go_wp2
 go_loopw [3] (fun i wr => ∃ k : Nat, k ≤ x.wea.length ∧ k ≤ 6 ∧ i = .int .i64 k ∧ Hid ((x.wea.take k).any (fun r => decide (8 < r.length)) = false) ∧ wr = w.alloc (.cells #[.slice wa x.wea.length wc, .slice oa x.org.length oc] 81)) (fun i _ => x.wea.length - (intOf i).toNat)
 case atStart => exact ⟨0, Nat.zero_le _, by omega, rfl, by simp [Hid], rfl⟩
 case round =>
  obtain ⟨k, hk, hk6, rfl, hno, rfl⟩ := hrel
  by_cases hlt : k < x.wea.length
  ·have x2 : decide ((k : Int) < (x.wea.length : Int)) = true := by simpa using hlt
   by_cases h6 : k < 6
   ·have x3 : decide ((k : Int) < 6) = true := by simp; omega
    obtain ⟨bb, bo, gv, R, rfl, hR, c0, hg⟩ := HH.out k hlt
    obtain ⟨ga, gc, rfl, g1, g2, _⟩ := hg.open
    have d0 := HX0.out.cell c0
    have i1 : (0 : Int) ≤ (k : Int) := by omega
    have i2 : (k : Int) < (x.wea.length : Int) := by omega
    clear c0 hg
    by_cases h8 : 8 < R.length
    ·have x4 : decide ((8 : Int) < (R.length : Int)) = true := by simp; omega
     have HN : Hid (shortB x = false) := by
      have : (x.wea.take 6).any (fun r => decide (8 < r.length)) = true := any_of_at (fun (r : List Int) => decide (8 < r.length)) (by rw [List.getElem?_take, if_pos h6]; exact hR.out) (by simpa using h8)
      unfold Hid shortB; rw [this]; rfl
     go_wp2_with fail
     go_ret
     exact ⟨by rw [HN.out] <;> rfl, HX0.out⟩
    ·have x4 : decide ((8 : Int) < (R.length : Int)) = false := by simp; omega
     have HN : Hid ((x.wea.take (k + 1)).any (fun r => decide (8 < r.length)) = false) := by
      unfold Hid; rw [any_take_succ _ hR.out, hno.out, decide_eq_false h8]; rfl
     go_wp2_with fail
     go_roundw
     case rel => exact ⟨k + 1, by omega, by omega, by go_num, HN, by trivial⟩
     case measure => simp [intOf]; omega
   ·have x3 : decide ((k : Int) < 6) = false := by simp; omega
    have x4 : decide ((x.wea.length : Int) ≤ 5) = false := by simp; omega
    have HN : Hid (shortB x = false) := by unfold Hid shortB; rw [decide_eq_false (by omega : ¬ x.wea.length ≤ 5)]; simp
    go_wp2_with fail
    go_ret
    exact ⟨by rw [HN.out] <;> rfl, HX0.out⟩
  ·have x2 : decide ((k : Int) < (x.wea.length : Int)) = false := by simp; omega
   have HN : Hid (shortB x = (decide ((x.wea.length : Int) ≤ 5) && decide ((x.org.length : Int) ≤ 7))) := by
    have h := hno.out
    rw [List.take_of_length_le (by omega)] at h
    unfold Hid shortB
    rw [List.take_of_length_le (by omega), h, Bool.eq_iff_iff]
    simp; omega
   by_cases h5 : x.wea.length ≤ 5
   ·have x4 : decide ((x.wea.length : Int) ≤ 5) = true := by simp; omega
    rw [x4, Bool.true_and] at HN
    go_wp2_with fail
    go_ret
    exact ⟨by rw [HN.out] <;> rfl, HX0.out⟩
   ·have x4 : decide ((x.wea.length : Int) ≤ 5) = false := by simp; omega
    rw [x4, Bool.false_and] at HN
    go_wp2_with fail
    go_ret
    exact ⟨by rw [HN.out] <;> rfl, HX0.out⟩
set_option maxRecDepth 100000 in
set_option maxHeartbeats 4000000 in
theorem rtruth_any (bv sv xv : Value) (b : Book) (s : Sack) (x : Truth) (w : World) (hb : BookAt w bv b) (hs : SackAt w sv s) (hx : TruthAt w xv x) :
  Calls Tryz.prog 39 #[bv, sv, xv] w fun e w' => e = .returned (.bool (truthB b s x)) ∧ Ext w w' := by
 obtain ⟨rv, rfl, hr⟩ := hb
 obtain ⟨ra, rc, rfl, _⟩ := hr.open
 obtain ⟨sv, tv, rfl, hsh, htt⟩ := hs
 obtain ⟨sa, sc, rfl, _⟩ := hsh.open
 obtain ⟨ta, tc, rfl, _⟩ := RowAt.open htt
 obtain ⟨wv, ov, rfl, hw, ho⟩ := hx
 obtain ⟨wa, wc, rfl, h1, h2, h3⟩ := hw.open
 obtain ⟨oa, oc, rfl, o1, o2, _⟩ := ho.open
 have hmix : Tryz.prog.follows .mixedOrders = true := by kernel_rfl
 have HH := Lib.hid h3
 obtain ⟨W0, hW0⟩ : ∃ W0, W0 = (((w.alloc (.cells #[.int .i64 b.years, .slice ra b.rivers.length rc] 24)).alloc (.cells #[.slice sa s.shells.length sc, .slice ta s.tests.length tc] 28)).alloc (.cells #[.slice wa x.wea.length wc, .slice oa x.org.length oc] 81)) := ⟨_, rfl⟩
 have HX0 := Lib.hid (show Ext w W0 by rw [hW0]; exact (((Ext.refl w).alloc _).alloc _).alloc _)
 have HS := Lib.hid (fun W (h : Ext W0 W) => (⟨h.cell (by rw [hW0]; go_simp), h.cell (by rw [hW0]; go_simp), h.cell (by rw [hW0]; go_simp), h.cell (by rw [hW0]; go_simp), h.cell (by rw [hW0]; go_simp)⟩ :
  W.cell? ⟨w.heap.size, 0, none⟩ = some (.int .i64 b.years) ∧ W.cell? ⟨w.heap.size, 1, none⟩ = some (.slice ra b.rivers.length rc) ∧ W.cell? ⟨w.heap.size + 1, 0, none⟩ = some (.slice sa s.shells.length sc) ∧ W.cell? ⟨w.heap.size + 2, 0, none⟩ = some (.slice wa x.wea.length wc) ∧ W.cell? ⟨w.heap.size + 2, 1, none⟩ = some (.slice oa x.org.length oc)))
 clear h3 hw ho hr hsh htt
 go_enter Tryz.func39, Tryz.ntmps39
 go_upto_region 1 with fail
 rw [← hW0]
 clear hW0
 go_wp2
 go_loopw [7] (fun i wr => ∃ k : Nat, k ≤ x.wea.length ∧ i = .int .i64 k ∧ Hid ((x.wea.take k).any (fun r => decide ((r.length : Int) ≠ b.years)) = false) ∧ Ext W0 wr) (fun i _ => x.wea.length - (intOf i).toNat)
 case atStart => exact ⟨0, Nat.zero_le _, rfl, by simp [Hid], Ext.refl _⟩
 case round =>
  obtain ⟨k, hk, rfl, hno, hx⟩ := hrel
  obtain ⟨z0, z1, z2, z3, z4⟩ := HS.out _ hx
  by_cases hlt : k < x.wea.length
  ·have x2 : decide ((k : Int) < (x.wea.length : Int)) = true := by simpa using hlt
   obtain ⟨bb, bo, gv, R, rfl, hR, c0, hg⟩ := HH.out k hlt
   obtain ⟨ga, gc, rfl, g1, g2, _⟩ := hg.open
   have d0 := (HX0.out.trans hx).cell c0
   have i1 : (0 : Int) ≤ (k : Int) := by omega
   have i2 : (k : Int) < (x.wea.length : Int) := by omega
   clear c0 hg
   by_cases h8 : (R.length : Int) = b.years
   ·have x4 : ((R.length : Int) != b.years) = false := by rw [bne_eq_false_iff_eq]; exact h8
    have HN : Hid ((x.wea.take (k + 1)).any (fun r => decide ((r.length : Int) ≠ b.years)) = false) := by
     unfold Hid; rw [any_take_succ _ hR.out, hno.out]; simpa using h8
    clear h8
    go_wp2
    go_quiet (fail)
    go_wp2
    go_roundw
    case rel => exact ⟨k + 1, by omega, by go_num, HN, hx.drewN _⟩
    case measure => simp [intOf]; omega
   ·have x4 : ((R.length : Int) != b.years) = true := by rw [bne_iff_ne]; exact h8
    have HN : Hid (truthB b s x = false) := by
     have : x.wea.any (fun r => decide ((r.length : Int) ≠ b.years)) = true := any_of_at (fun (r : List Int) => decide ((r.length : Int) ≠ b.years)) hR.out (by simpa using h8)
     unfold Hid truthB; rw [this]; rfl
    clear h8
    go_wp2
    go_quiet (fail)
    go_wp2
    go_ret
    exact ⟨by rw [HN.out] <;> rfl, (HX0.out.trans hx).drewN _⟩
  ·have x2 : decide ((k : Int) < (x.wea.length : Int)) = false := by simp; omega
   have hall : x.wea.any (fun r => decide ((r.length : Int) ≠ b.years)) = false := by
    have h := hno.out
    rwa [List.take_of_length_le (by omega)] at h
   by_cases e1 : x.wea.length = b.rivers.length
   ·have t1 : ((x.wea.length : Int) == (b.rivers.length : Int)) = true := by rw [beq_iff_eq]; omega
    have HN : Hid (truthB b s x = ((x.org.length : Int) == (s.shells.length : Int))) := by
     unfold Hid truthB; rw [hall, decide_eq_true e1, Bool.eq_iff_iff]; simp; omega
    clear e1 hall
    go_wp2
    go_ret
    exact ⟨by rw [HN.out] <;> rfl, HX0.out.trans hx⟩
   ·have t1 : ((x.wea.length : Int) == (b.rivers.length : Int)) = false := by rw [beq_eq_false_iff_ne]; omega
    have HN : Hid (truthB b s x = false) := by unfold Hid truthB; rw [decide_eq_false e1]; simp
    clear e1 hall
    go_wp2
    go_ret
    exact ⟨by rw [HN.out] <;> rfl, HX0.out.trans hx⟩
end Go.Proofs.YtnhpibnneidmgaaGreatDoor
