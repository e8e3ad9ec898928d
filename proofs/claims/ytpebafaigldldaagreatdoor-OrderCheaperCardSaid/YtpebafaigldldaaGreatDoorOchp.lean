/- OrderCheaper: the theorem of the best packs. -/
import Derived.Test.YtpebafaigldldaaGreatDoorOkn
import Derived.Test.YtpebafaigldldaaGreatDoorOtk
namespace Go.Proofs.YtpebafaigldldaaGreatDoor
open Go.RowKit
theorem ext_block'' {w w' : World} {B : Nat} {o : Obj} (h : Ext w w') (zb : w.heap[B]? = some o) : w'.heap[B]? = some o := (h.block (Array.getElem?_eq_some_iff.1 zb).1).trans zb
theorem packs_yes {ks : List (Int × Int)} {p : Int} {w w' : World} {e : Ending} (h : PacksRes ks p w e w') (hk : isPacksB ks = true) (hp : inB p 0 600 = true) : ∃ a c, e = .returned (.tuple #[.slice a (pkP ks p).1.length c, .int .i64 (pkP ks p).2, .int .i64 0]) ∧ IntsAt w' (.slice a (pkP ks p).1.length c) (pkP ks p).1 ∧ Ext w w' := by
 rcases h.2 with ⟨r, _⟩ | ⟨_, u, h1, h2⟩
 ·unfold okPk at r; rw [hk, hp] at r; cases r
 ·obtain ⟨a, c, rfl, _⟩ := h2.open
  exact ⟨a, c, h1, h2, h.1⟩
theorem taken_yes {ks : List (Int × Int)} {cv : Value} {c : List Int} {w w' : World} {e : Ending} (h : TakenRes ks cv c w e w') (hk : okTake ks c = true) : e = .returned (takenV cv c.sum (priceOf ks c) (holdsOf ks c) (decide ((c.length : Int) = ks.length))) ∧ Ext w w' := by
 rcases h.2 with ⟨r, _⟩ | ⟨_, r⟩
 ·rw [hk] at r; cases r
 ·exact ⟨r, h.1⟩
theorem taken_no {ks : List (Int × Int)} {cv : Value} {c : List Int} {w w' : World} {e : Ending} (h : TakenRes ks cv c w e w') (hk : okTake ks c = false) : e = .returned (takenV (.slice none 0 0) 0 0 0 false) ∧ Ext w w' := by
 rcases h.2 with ⟨_, r⟩ | ⟨r, _⟩
 ·exact ⟨r, h.1⟩
 ·rw [hk] at r; cases r
set_option maxRecDepth 100000 in
set_option maxHeartbeats 16000000 in
theorem orderCheaper_any (v : Value) (ks : List (Int × Int)) (pieces : Int) (ov : Value) (oc : List Int) (w : World) (hv : RowOf packC w v ks) (ho : IntsAt w ov oc) (ht : TabOk w) (hm : MaxOk w) :
  Calls Tryz.prog 6 #[v, .int .i64 pieces, ov] w fun e w' => e = .returned (.bool true) ∧ Ext w w' := by
 have HVV := Lib.hid (fun W1 (h : Ext w W1) => (⟨RowAt.ext hv h, ho.ext h⟩ : RowOf packC W1 v ks ∧ IntsAt W1 ov oc))
 obtain ⟨la, lc, rfl, l1, l2, -⟩ := RowOf.open2 (f := packC) (fun _ => rfl) hv
 obtain ⟨oa, oo, rfl, o1, o2, -⟩ := ho.open
 have HKN := Lib.hid (fun W1 (h : Ext w W1) => lknown_any W1 (ht.ext h) (hm.ext h))
 have HIS := Lib.hid (fun W1 (h : Ext w W1) => calls_ext (rispacks_any _ ks W1 (HVV.out W1 h).1))
 have HPI := Lib.hid (fun W1 (_ : Ext w W1) => calls_ext (pieces_any pieces W1))
 clear hv ho ht hm
 have hxc := Ext.refl w
 by_cases j0 : 6 < ks.length
 ·have t0 : decide ((6 : Int) < (ks.length : Int)) = true := by simp; omega
  go_enter Tryz.func6, Tryz.ntmps6
  go_wp2_with (go_at_call 15; refine (HKN.out _ hxc).mono ?_; rintro e w' ⟨rfl, hxs⟩)
  go_ret
  exact ⟨rfl, hxs⟩
 have t0 : decide ((6 : Int) < (ks.length : Int)) = false := by simp; omega
 by_cases j1 : 6 < oc.length
 ·have t1 : decide ((6 : Int) < (oc.length : Int)) = true := by simp; omega
  go_enter Tryz.func6, Tryz.ntmps6
  go_wp2_with (go_at_call 15; refine (HKN.out _ hxc).mono ?_; rintro e w' ⟨rfl, hxs⟩)
  go_ret
  exact ⟨rfl, hxs⟩
 have t1 : decide ((6 : Int) < (oc.length : Int)) = false := by simp; omega
 cases i2 : isPacksB ks with
 | false =>
  rw [i2] at HIS
  clear i2
  go_enter Tryz.func6, Tryz.ntmps6
  go_wp2_with (first | (go_at_call 26; refine (HIS.out _ hxc).mono ?_; rintro e w' ⟨rfl, hxs⟩; clear HIS; have hxc := hxc.trans hxs; clear hxs) | (go_at_call 15; refine (HKN.out _ hxc).mono ?_; rintro e w' ⟨rfl, hxs⟩))
  go_ret
  exact ⟨rfl, hxc.trans hxs⟩
 | true =>
 rw [i2] at HIS
 cases i3 : inB pieces 0 600 with
 | false =>
  rw [i3] at HPI
  clear i2 i3
  go_enter Tryz.func6, Tryz.ntmps6
  go_wp2_with (first | (go_at_call 26; refine (HIS.out _ hxc).mono ?_; rintro e w' ⟨rfl, hxs⟩; clear HIS; have hxc := hxc.trans hxs; clear hxs) | (go_at_call 27; refine (HPI.out _ hxc).mono ?_; rintro e w' ⟨rfl, hxs⟩; clear HPI; have hxc := hxc.trans hxs; clear hxs) | (go_at_call 15; refine (HKN.out _ hxc).mono ?_; rintro e w' ⟨rfl, hxs⟩))
  go_ret
  exact ⟨rfl, hxc.trans hxs⟩
 | true =>
 rw [i3] at HPI
 have hK := packsB_iff.1 i2
 obtain ⟨p0, p1⟩ := inB_iff.1 i3
 obtain ⟨N, hN⟩ : ∃ N : Nat, pieces = (N : Int) := ⟨pieces.toNat, by omega⟩
 subst hN
 have HP1 := Lib.hid (fun W1 (h : Ext w W1) => (Packs_any _ ks (N : Int) W1 (HVV.out W1 h).1).mono (fun e w' q => packs_yes q i2 i3))
 have hpk : pkP ks (N : Int) = pkAt ks N := by unfold pkP; simp
 rw [hpk] at HP1
 have hok := pk_ok hK N
 have hnob := fun (h : okTake ks oc = true) (hl : oc.length = ks.length) => better_no hK (n := N) (ok_taken h hl)
 have HM : Hid (N < 600 → (pkAt ks N).2 ≤ (pkAt ks (N + 1)).2) := fun _ => pk_more hK N
 have HP2 : Hid (N < 600 → ∀ W1, Ext w W1 → Calls Tryz.prog 25 #[.slice la ks.length lc, .int .i64 ((N : Int) + 1)] W1 fun e w' => ∃ a c, e = .returned (.tuple #[.slice a (pkAt ks (N + 1)).1.length c, .int .i64 (pkAt ks (N + 1)).2, .int .i64 0]) ∧ Ext W1 w') := fun hn W1 h => by
  refine (Packs_any _ ks ((N : Int) + 1) W1 (HVV.out W1 h).1).mono fun e w' q => ?_
  obtain ⟨a, c, h1, _, h3⟩ := packs_yes q i2 (inB_iff.2 ⟨by omega, by omega⟩)
  have : pkP ks ((N : Int) + 1) = pkAt ks (N + 1) := by unfold pkP; congr 1
  rw [this] at h1
  exact ⟨a, c, h1, h3⟩
 have HT := Lib.hid (taken_ok hok (by omega))
 obtain ⟨c, n, hcn⟩ : ∃ c n, pkAt ks N = (c, n) := ⟨_, _, rfl⟩
 rw [hcn] at HP1 hok hnob HM HT
 generalize (pkAt ks (N + 1)).2 = n2 at HM HP2
 have hcl := hok.tak.len
 have HPR : Hid (n = priceOf ks c) := hok.price
 have hho := hok.holds
 have HNB := Lib.hid hnob
 have HKK := Lib.hid hK
 simp only at hho
 have hx0 := hxc
 clear hpk hcn hok hnob hK i2 i3
 have k600 : N ≤ 600 := by omega
 clear p0 p1
 have HCL := Lib.hid hcl
 have HHO := Lib.hid hho
 clear hcl hho
 simp only at HP1
 go_enter Tryz.func6, Tryz.ntmps6
 go_upto_region 4 with (first | (go_at_call 26; refine (HIS.out _ hxc).mono ?_; rintro e w' ⟨rfl, hxs⟩; clear HIS; have hxc := hxc.trans hxs; clear hxs) | (go_at_call 27; refine (HPI.out _ hxc).mono ?_; rintro e w' ⟨rfl, hxs⟩; clear HPI; have hxc := hxc.trans hxs; clear hxs) | (go_at_call 25; refine (HP1.out _ hxc).mono ?_; rintro e w3 ⟨a1, c1, rfl, hu, hxs⟩; clear HP1; have hxc := hxc.trans hxs; clear hxs))
 have HT1 := Lib.hid ((taken_any _ _ ks c w3 HKK.out (HVV.out w3 hxc).1 hu).mono (fun e w' q => taken_yes q HT.out))
 have e1 : decide ((c.length : Int) = (ks.length : Int)) = true := by have := HCL.out; simp; omega
 rw [e1, ← HPR.out] at HT1
 have HU := Lib.hid hu
 clear e1 hu
 go_upto_region 5 with (go_at_call 30; refine HT1.out.mono ?_; rintro e w4 ⟨rfl, hxs⟩; clear HT1; have HX34 := Lib.hid hxs; have hxc := hxc.trans hxs; clear hxs)
 obtain ⟨W5, hW5⟩ : ∃ W5, W5 = w4.alloc (.cells #[.slice a1 c.length c1, .int .i64 c.sum, .int .i64 n] 52) := ⟨_, rfl⟩
 have hq : Ext w W5 := by rw [hW5]; exact hxc.alloc _
 have HB5 := Lib.hid (show W5.heap[w4.heap.size]? = some (.cells #[.slice a1 c.length c1, .int .i64 c.sum, .int .i64 n] 52) by rw [hW5]; exact World.alloc_heap_new _ _)
 have HU5 := Lib.hid (HU.out.ext (show Ext w3 W5 by rw [hW5]; exact HX34.out.alloc _))
 rw [← hW5]
 clear hW5 hxc HX34 HU
 obtain ⟨⟨y0, y1, y2⟩, -⟩ := cells3 HB5.out
 have g1 : decide (holdsOf ks c < (N : Int)) = false := by have := HHO.out; simp; omega
 have g2 : (n != n) = false := by simp
 have g3 : (true : Bool) = true := rfl
 clear g3
 cases i4 : okTake ks oc with
 | false =>
  have HT2 := Lib.hid (fun W1 (h : Ext w W1) => (taken_any _ _ ks oc W1 HKK.out (HVV.out W1 h).1 (HVV.out W1 h).2).mono (fun e w' q => taken_no q i4))
  clear i4 HNB HU5 HVV
  go_upto_region 8 with ((go_at_call 30; refine (HT2.out _ hq).mono ?_; rintro e w' ⟨rfl, hx⟩; clear HT2; have hq := hq.trans hx; clear hx))
  have hq := hq.alloc (.cells #[.slice none 0 0, .int .i64 0, .int .i64 0] 52)
  clear y0 y1 y2
  by_cases h6 : N = 600
  ·have z1 : ((N : Int) == 600) = true := by simp; omega
   clear HP2 HM h6
   go_wp2_with ((go_at_call 15; refine (HKN.out _ hq).mono ?_; rintro e w' ⟨rfl, hx⟩; clear HKN; have hq := hq.trans hx; clear hx))
   go_ret
   exact ⟨rfl, hq⟩
  ·have z1 : ((N : Int) == 600) = false := by simp; omega
   have HP2 := Lib.hid (HP2.out (by omega))
   have z2 : decide (n ≤ n2) = true := by have := HM.out (by omega); simpa using this
   have z3 : IntKind.i64.wrap ((N : Int) + 1) = (N : Int) + 1 := IntWalk.i64_in _ (by omega)
   clear HM h6
   go_wp2_with (first | (go_at_call 25; refine (HP2.out _ hq).mono ?_; rintro e w' ⟨a2, c2, rfl, hx⟩; clear HP2; have hq := hq.trans hx; clear hx) | (go_at_call 15; refine (HKN.out _ hq).mono ?_; rintro e w' ⟨rfl, hx⟩; clear HKN; have hq := hq.trans hx; clear hx))
   go_ret
   exact ⟨rfl, hq⟩
 | true =>
 have HT2 := Lib.hid (fun W1 (h : Ext w W1) => (taken_any _ _ ks oc W1 HKK.out (HVV.out W1 h).1 (HVV.out W1 h).2).mono (fun e w' q => taken_yes q i4))
 by_cases h5 : oc.length = ks.length
 rotate_left
 ·rw [decide_eq_false (show ¬ (oc.length : Int) = ks.length by omega)] at HT2
  clear i4 h5 HNB HU5 HVV
  generalize holdsOf ks oc = oh at *
  generalize priceOf ks oc = op at *
  generalize oc.sum = os at *
  go_upto_region 8 with ((go_at_call 30; refine (HT2.out _ hq).mono ?_; rintro e w' ⟨rfl, hx⟩; clear HT2; have hq := hq.trans hx; clear hx))
  have hq := hq.alloc (.cells #[.slice oa oc.length oo, .int .i64 os, .int .i64 op] 52)
  clear y0 y1 y2
  by_cases h6 : N = 600
  ·have z1 : ((N : Int) == 600) = true := by simp; omega
   clear HP2 HM h6
   go_wp2_with ((go_at_call 15; refine (HKN.out _ hq).mono ?_; rintro e w' ⟨rfl, hx⟩; clear HKN; have hq := hq.trans hx; clear hx))
   go_ret
   exact ⟨rfl, hq⟩
  ·have z1 : ((N : Int) == 600) = false := by simp; omega
   have HP2 := Lib.hid (HP2.out (by omega))
   have z2 : decide (n ≤ n2) = true := by have := HM.out (by omega); simpa using this
   have z3 : IntKind.i64.wrap ((N : Int) + 1) = (N : Int) + 1 := IntWalk.i64_in _ (by omega)
   clear HM h6
   go_wp2_with (first | (go_at_call 25; refine (HP2.out _ hq).mono ?_; rintro e w' ⟨a2, c2, rfl, hx⟩; clear HP2; have hq := hq.trans hx; clear hx) | (go_at_call 15; refine (HKN.out _ hq).mono ?_; rintro e w' ⟨rfl, hx⟩; clear HKN; have hq := hq.trans hx; clear hx))
   go_ret
   exact ⟨rfl, hq⟩
 rw [decide_eq_true (show (oc.length : Int) = ks.length by omega)] at HT2
 by_cases h7 : (N : Int) ≤ holdsOf ks oc
 rotate_left
 ·have z4 : decide ((N : Int) ≤ holdsOf ks oc) = false := by simpa using h7
  clear i4 h5 h7 HNB HU5 HVV
  generalize holdsOf ks oc = oh at *
  generalize priceOf ks oc = op at *
  generalize oc.sum = os at *
  go_upto_region 8 with ((go_at_call 30; refine (HT2.out _ hq).mono ?_; rintro e w' ⟨rfl, hx⟩; clear HT2; have hq := hq.trans hx; clear hx))
  have hq := hq.alloc (.cells #[.slice oa oc.length oo, .int .i64 os, .int .i64 op] 52)
  clear y0 y1 y2
  by_cases h6 : N = 600
  ·have z1 : ((N : Int) == 600) = true := by simp; omega
   clear HP2 HM h6
   go_wp2_with ((go_at_call 15; refine (HKN.out _ hq).mono ?_; rintro e w' ⟨rfl, hx⟩; clear HKN; have hq := hq.trans hx; clear hx))
   go_ret
   exact ⟨rfl, hq⟩
  ·have z1 : ((N : Int) == 600) = false := by simp; omega
   have HP2 := Lib.hid (HP2.out (by omega))
   have z2 : decide (n ≤ n2) = true := by have := HM.out (by omega); simpa using this
   have z3 : IntKind.i64.wrap ((N : Int) + 1) = (N : Int) + 1 := IntWalk.i64_in _ (by omega)
   clear HM h6
   go_wp2_with (first | (go_at_call 25; refine (HP2.out _ hq).mono ?_; rintro e w' ⟨a2, c2, rfl, hx⟩; clear HP2; have hq := hq.trans hx; clear hx) | (go_at_call 15; refine (HKN.out _ hq).mono ?_; rintro e w' ⟨rfl, hx⟩; clear HKN; have hq := hq.trans hx; clear hx))
   go_ret
   exact ⟨rfl, hq⟩
 ·have z4 : decide ((N : Int) ≤ holdsOf ks oc) = true := by simpa using h7
  have HBT := Lib.hid (fun W1 (h : Ext W5 W1) (h0 : Ext w W1) => rbetter_any _ _ (oc, priceOf ks oc) (c, n) oc.sum c.sum W1 (HVV.out W1 h0).2 (HU5.out.ext h))
  rw [HNB.out i4 h5 h7] at HBT
  simp only at HBT
  clear i4 h5 h7 HNB HU5 HVV
  generalize holdsOf ks oc = oh at *
  generalize priceOf ks oc = op at *
  generalize oc.sum = os at *
  have HQ5 := Lib.hid hq
  replace HT2 := Lib.hid (HT2.out _ hq)
  go_upto_region 8 with (go_at_call 30; refine HT2.out.mono ?_; rintro e w7 ⟨rfl, hx⟩; clear HT2; have HX57 := Lib.hid hx; clear hx)
  obtain ⟨W8, hW8⟩ : ∃ W8, W8 = w7.alloc (.cells #[.slice oa oc.length oo, .int .i64 os, .int .i64 op] 52) := ⟨_, rfl⟩
  have hq8 : Ext W5 W8 := by rw [hW8]; exact HX57.out.alloc _
  have HB8 := Lib.hid (show W8.heap[w7.heap.size]? = some (.cells #[.slice oa oc.length oo, .int .i64 os, .int .i64 op] 52) by rw [hW8]; exact World.alloc_heap_new _ _)
  rw [← hW8]
  clear hW8 y0 y1 y2
  obtain ⟨⟨y0, y1, y2⟩, -⟩ := cells3 (ext_block'' hq8 HB5.out)
  obtain ⟨⟨u0, u1, u2⟩, -⟩ := cells3 HB8.out
  have hq := HQ5.out.trans hq8
  replace HBT := Lib.hid (HBT.out _ hq8 hq)
  clear hq8
  by_cases h6 : N = 600
  ·have z1 : ((N : Int) == 600) = true := by simp; omega
   clear HP2 HM h6
   go_wp2_with (first | (go_at_call 31; refine HBT.out.mono ?_; rintro e w' ⟨rfl, hx⟩; clear HBT; have hq := hq.trans hx; clear hx) | (go_at_call 15; refine (HKN.out _ hq).mono ?_; rintro e w' ⟨rfl, hx⟩; clear HKN; have hq := hq.trans hx; clear hx))
   go_ret
   exact ⟨rfl, hq⟩
  ·have z1 : ((N : Int) == 600) = false := by simp; omega
   have HP2 := Lib.hid (HP2.out (by omega))
   have z2 : decide (n ≤ n2) = true := by have := HM.out (by omega); simpa using this
   have z3 : IntKind.i64.wrap ((N : Int) + 1) = (N : Int) + 1 := IntWalk.i64_in _ (by omega)
   clear HM h6
   go_wp2_with (first | (go_at_call 31; refine HBT.out.mono ?_; rintro e w' ⟨rfl, hx⟩; clear HBT; have hq := hq.trans hx; clear hx) | (go_at_call 25; refine (HP2.out _ hq).mono ?_; rintro e w' ⟨a2, c2, rfl, hx⟩; clear HP2; have hq := hq.trans hx; clear hx) | (go_at_call 15; refine (HKN.out _ hq).mono ?_; rintro e w' ⟨rfl, hx⟩; clear HKN; have hq := hq.trans hx; clear hx))
   go_ret
   exact ⟨rfl, hq⟩
end Go.Proofs.YtpebafaigldldaaGreatDoor
