/- card.Keeps: the closure that sums the lengths. -/
import Derived.Test.YtapkbonlijhmjaaGreatDoorMet
namespace Go.Proofs.YtapkbonlijhmjaaGreatDoor
open Go.RowKit

/-- What the closure finds and leaves: the sum at tb, try's answer at ib. -/
def KSt (w0 : World) (tb ib : Nat) (s : Int) (W : World) : Prop := Ext w0 W ∧ W.cell? ⟨tb, 0, none⟩ = some (.int .i64 s) ∧ W.frozen? ⟨tb, 0, none⟩ = false ∧ W.cell? ⟨ib, 0, none⟩ = some (.bool false) ∧ W.frozen? ⟨ib, 0, none⟩ = false
theorem KSt.ext {w0 : World} {tb ib : Nat} {s : Int} {W W' : World} (h : KSt w0 tb ib s W) (k : Ext W W') : KSt w0 tb ib s W' := by
  obtain ⟨h1, h2, h3, h4, h5⟩ := h
  exact ⟨h1.trans k, k.cell h2, (k.frozen (lt_of_cell h2)).trans h3, k.cell h4, (k.frozen (lt_of_cell h4)).trans h5⟩
theorem KSt.put {w0 : World} {tb ib : Nat} {s : Int} {W : World} (h : KSt w0 tb ib s W) (hb : w0.heap.size ≤ tb) (hn : tb ≠ ib) (s' : Int) : KSt w0 tb ib s' (W.setCell ⟨tb, 0, none⟩ (.int .i64 s')) := by
  obtain ⟨h1, h2, h3, h4, h5⟩ := h
  refine ⟨h1.setCell (p := ⟨tb, 0, none⟩) hb _, World.cell?_setCell_same _ _ _ h2, (World.frozen?_setCell _ _ _ _).trans h3, ?_, (World.frozen?_setCell _ _ _ _).trans h5⟩
  rw [World.cell?_setCell_far _ _ _ _ hn]; exact h4
set_option maxRecDepth 100000 in
set_option maxHeartbeats 4000000 in
theorem keeps2_ok (c : Roads) (P : List (List Int)) (la fa : Option Addr) (lk fk cb pb tb ib : Nat) (pv : Value) (w w0 : World) (hB : RoadsB c) (hP : RowsAt w0 pv P) (hR : RoadsAt w0 (.agg #[.slice la c.loads.length lk, .int .i64 c.bears, .slice fa c.far.length fk]) c)
    (hs : StopsOk c P) (h7 : P.length ≤ 7 ∧ ∀ l, l ∈ P → l.length ≤ 7) (hld : ∀ l, l ∈ P → loadOf c l ≤ c.bears) (hbx : BoxAt c la fa lk fk cb w0) (hpb : w0.cell? ⟨pb, 0, none⟩ = some pv) (htb : w0.heap.size ≤ tb) (hne : tb ≠ ib) (hk : KSt w0 tb ib 0 w) :
    Calls Tryz.prog 76 #[.pointer (some ⟨pb, 0, none⟩), .pointer (some ⟨cb, 0, none⟩), .pointer (some ⟨tb, 0, none⟩)] w fun e w' => e = .returned (.tuple #[]) ∧ KSt w0 tb ib (planLen c P) w' := by
  obtain ⟨pa, pk, rfl, p1, p2, p3⟩ := hP.open
  have P3 := Lib.hid p3
  have HLN := Lib.hid (fun w1 (hx : Ext w0 w1) u l (hm : l ∈ P) (hu : IntsAt w1 u l) => length_ok _ u c l w1 hB (hR.ext hx) hu (hs l hm) (by have := h7.2 l hm; omega) (hld l hm))
  have HRG := Lib.hid (fun l (hm : l ∈ P) => And.intro (lengthOf_range hB (hs l hm)) (h7.2 l hm))
  have HK := Lib.hid hk
  have HB := Lib.hid hbx
  have HT := Lib.hid htb
  have HN := Lib.hid hne
  have hp7 := h7.1
  have q0 := hk.1.cell hpb
  clear hP p3 hR hs h7 hld hk hbx hpb htb hne
  go_enter Tryz.func76, Tryz.ntmps76
  go_wp2
  go_loopw [8] (fun i wr => ∃ k : Nat, k ≤ P.length ∧ i = .int .i64 k ∧ KSt w0 tb ib (planLen c (P.take k)) wr ∧ (0 ≤ planLen c (P.take k) ∧ planLen c (P.take k) ≤ 8000 * k)) (fun i _ => P.length - (intOf i).toNat)
  case atStart => exact ⟨0, Nat.zero_le _, rfl, HK.out, by simp [planLen]⟩
  case round =>
    obtain ⟨k, hk, rfl, hst, s1, s2⟩ := hrel
    by_cases hlt : k < P.length
    · obtain ⟨b, o, u, x, rfl, hxk, hcu, hux⟩ := P3.out k hlt
      have HM := Lib.hid (List.mem_of_getElem? hxk.out)
      have HUX := Lib.hid (hux.ext hst.1)
      obtain ⟨ua, uc, rfl, _⟩ := hux.open
      have HS := Lib.hid (planLen_up (c := c) hxk.out)
      obtain ⟨⟨r1, r2⟩, r3⟩ := HRG.out x HM.out
      have d := hst.1.cell hcu
      obtain ⟨z0, z1, z2⟩ := HB.out.ext hst.1
      have x1 : decide ((k : Int) < (P.length : Int)) = true := by simpa using hlt
      have x4 : (k : Int) < (P.length : Int) := by omega
      have x7 : (0 : Int) ≤ (k : Int) := by omega
      have HST := Lib.hid hst
      generalize hss : planLen c (P.take k) = ss at *
      have E2 : IntKind.i64.wrap (ss + lengthOf c x) = ss + lengthOf c x := IntWalk.i64_in _ (by omega)
      have HBD : Hid (0 ≤ ss + lengthOf c x ∧ ss + lengthOf c x ≤ 8000 * ((k : Int) + 1)) := ⟨by omega, by omega⟩
      clear hss hcu hux hst r1 r2 r3 s1 s2
      go_wp2_with (go_at_call 77; refine (HLN.out wr HST.out.1 _ x HM.out HUX.out).mono ?_; rintro e w1 ⟨rfl, hx1⟩; have HS1 := Lib.hid (HST.out.ext hx1); have t0 := HS1.out.2.1; have f0 := HS1.out.2.2.1)
      refine ⟨⟨k + 1, by omega, by go_num, ?_, by rw [HS.out]; have := HBD.out; omega⟩, by simp [intOf]; omega⟩
      rw [HS.out]
      exact HS1.out.put HT.out HN.out _
    · have hke : k = P.length := by omega
      have HF : Hid (KSt w0 tb ib (planLen c P) wr) := by
        unfold Hid
        rw [List.take_of_length_le (by omega)] at hst
        exact hst
      have x1 : decide ((k : Int) < (P.length : Int)) = false := by simpa using hlt
      clear hst s1 s2 hke
      go_wp2
      go_end0
      exact ⟨rfl, HF.out⟩
set_option maxRecDepth 100000 in
set_option maxHeartbeats 4000000 in
theorem keeps2_heavy (c : Roads) (P : List (List Int)) (la fa : Option Addr) (lk fk cb pb tb ib : Nat) (pv : Value) (w w0 : World) (hB : RoadsB c) (hP : RowsAt w0 pv P) (hR : RoadsAt w0 (.agg #[.slice la c.loads.length lk, .int .i64 c.bears, .slice fa c.far.length fk]) c)
    (hs : StopsOk c P) (h7 : P.length ≤ 7 ∧ ∀ l, l ∈ P → l.length ≤ 7) (hld : ¬ ∀ l, l ∈ P → loadOf c l ≤ c.bears) (hbx : BoxAt c la fa lk fk cb w0) (hpb : w0.cell? ⟨pb, 0, none⟩ = some pv) (htb : w0.heap.size ≤ tb) (hne : tb ≠ ib) (hk : KSt w0 tb ib 0 w) :
    Calls Tryz.prog 76 #[.pointer (some ⟨pb, 0, none⟩), .pointer (some ⟨cb, 0, none⟩), .pointer (some ⟨tb, 0, none⟩)] w fun e w' => ∃ n : Int, e = .panicked [{ v := heavyV n, recovered := false }] ∧ ∃ s, KSt w0 tb ib s w' := by
  obtain ⟨pa, pk, rfl, p1, p2, p3⟩ := hP.open
  have P3 := Lib.hid p3
  have HLN := Lib.hid (fun w1 (hx : Ext w0 w1) u l (hm : l ∈ P) (hu : IntsAt w1 u l) => length_ok _ u c l w1 hB (hR.ext hx) hu (hs l hm) (by have := h7.2 l hm; omega))
  have HLH := Lib.hid (fun w1 (hx : Ext w0 w1) u l (hm : l ∈ P) (hu : IntsAt w1 u l) => length_heavy _ u c l w1 hB (hR.ext hx) hu (hs l hm) (by have := h7.2 l hm; omega))
  have HRG := Lib.hid (fun l (hm : l ∈ P) => And.intro (lengthOf_range hB (hs l hm)) (h7.2 l hm))
  have HLD := Lib.hid hld
  have HK := Lib.hid hk
  have HB := Lib.hid hbx
  have HT := Lib.hid htb
  have HN := Lib.hid hne
  have hp7 := h7.1
  have q0 := hk.1.cell hpb
  clear hP p3 hR hs h7 hld hk hbx hpb htb hne
  go_enter Tryz.func76, Tryz.ntmps76
  go_wp2
  go_loopw [8] (fun i wr => ∃ k : Nat, k ≤ P.length ∧ i = .int .i64 k ∧ KSt w0 tb ib (planLen c (P.take k)) wr ∧ (0 ≤ planLen c (P.take k) ∧ planLen c (P.take k) ≤ 8000 * k) ∧ Hid (∀ l, l ∈ P.take k → loadOf c l ≤ c.bears)) (fun i _ => P.length - (intOf i).toNat)
  case atStart => exact ⟨0, Nat.zero_le _, rfl, HK.out, by simp [planLen], fun l h => by simp at h⟩
  case round =>
    obtain ⟨k, hk, rfl, hst, ⟨s1, s2⟩, hall⟩ := hrel
    by_cases hlt : k < P.length
    · obtain ⟨b, o, u, x, rfl, hxk, hcu, hux⟩ := P3.out k hlt
      have HM := Lib.hid (List.mem_of_getElem? hxk.out)
      have HUX := Lib.hid (hux.ext hst.1)
      obtain ⟨ua, uc, rfl, _⟩ := hux.open
      have HS := Lib.hid (planLen_up (c := c) hxk.out)
      obtain ⟨⟨r1, r2⟩, r3⟩ := HRG.out x HM.out
      have d := hst.1.cell hcu
      obtain ⟨z0, z1, z2⟩ := HB.out.ext hst.1
      have x1 : decide ((k : Int) < (P.length : Int)) = true := by simpa using hlt
      have x4 : (k : Int) < (P.length : Int) := by omega
      have x7 : (0 : Int) ≤ (k : Int) := by omega
      have HST := Lib.hid hst
      by_cases hl : loadOf c x ≤ c.bears
      · have HAL : Hid (∀ l, l ∈ P.take (k + 1) → loadOf c l ≤ c.bears) := fun l hm => by
          rw [List.take_add_one, hxk.out, List.mem_append] at hm
          rcases hm with hm | hm
          · exact hall.out l hm
          · rw [show l = x by simpa using hm]; exact hl
        have HL := Lib.hid hl
        generalize hss : planLen c (P.take k) = ss at *
        have E2 : IntKind.i64.wrap (ss + lengthOf c x) = ss + lengthOf c x := IntWalk.i64_in _ (by omega)
        have HBD : Hid (0 ≤ ss + lengthOf c x ∧ ss + lengthOf c x ≤ 8000 * ((k : Int) + 1)) := ⟨by omega, by omega⟩
        clear hss hcu hux hst r1 r2 r3 s1 s2 hl
        go_wp2_with (go_at_call 77; refine (HLN.out wr HST.out.1 _ x HM.out HUX.out HL.out).mono ?_; rintro e w1 ⟨rfl, hx1⟩; have HS1 := Lib.hid (HST.out.ext hx1); have t0 := HS1.out.2.1; have f0 := HS1.out.2.2.1)
        refine ⟨⟨k + 1, by omega, by go_num, ?_, by rw [HS.out]; have := HBD.out; omega, HAL.out⟩, by simp [intOf]; omega⟩
        rw [HS.out]
        exact HS1.out.put HT.out HN.out _
      · have HL := Lib.hid (show c.bears < loadOf c x by omega)
        clear hcu hux hst r1 r2 r3 s1 s2 hl
        go_wp2_with (go_at_call 77; refine (HLH.out wr HST.out.1 _ x HM.out HUX.out HL.out).mono ?_; rintro e w1 ⟨n, rfl, hx1⟩; have HS1 := Lib.hid (HST.out.ext hx1))
        exact ⟨rfl, n, rfl, _, HS1.out⟩
    · exfalso
      refine HLD.out (fun l hl => hall.out l ?_)
      rw [List.take_of_length_le (by omega)]; exact hl
end Go.Proofs.YtapkbonlijhmjaaGreatDoor
