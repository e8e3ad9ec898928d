/- OrderPacks. -/
import Derived.Test.YtpebafaigldldaaGreatDoorOkn
import Derived.Test.YtpebafaigldldaaGreatDoorOrp
namespace Go.Proofs.YtpebafaigldldaaGreatDoor
open Go.RowKit
theorem packs_yes {ks : List (Int × Int)} {p : Int} {w w' : World} {e : Ending} (h : PacksRes ks p w e w') (hk : okPk ks p = true) : ∃ a c, e = .returned (.tuple #[.slice a (pkP ks p).1.length c, .int .i64 (pkP ks p).2, .int .i64 0]) ∧ IntsAt w' (.slice a (pkP ks p).1.length c) (pkP ks p).1 ∧ Ext w w' := by
 rcases h.2 with ⟨r, _⟩ | ⟨_, u, h1, h2⟩
 ·rw [hk] at r; cases r
 ·obtain ⟨a, c, rfl, _⟩ := h2.open
  exact ⟨a, c, h1, h2, h.1⟩
theorem packs_no {ks : List (Int × Int)} {p : Int} {w w' : World} {e : Ending} (h : PacksRes ks p w e w') (hk : okPk ks p = false) : e = .returned (.tuple #[.slice none 0 0, .int .i64 0, .int .i64 2]) ∧ Ext w w' := by
 rcases h.2 with ⟨_, r⟩ | ⟨r, _⟩
 ·exact ⟨r, h.1⟩
 ·rw [hk] at r; cases r
set_option maxRecDepth 100000 in
set_option maxHeartbeats 8000000 in
theorem orderPacks_any (v : Value) (ks : List (Int × Int)) (pieces : Int) (w : World) (hv : RowOf packC w v ks) (ht : TabOk w) (hm : MaxOk w) :
  Calls Tryz.prog 5 #[v, .int .i64 pieces] w fun e w' => e = .returned (.bool true) ∧ Ext w w' := by
 have HVV := Lib.hid (fun W1 (h : Ext w W1) => (RowAt.ext hv h : RowOf packC W1 v ks))
 obtain ⟨la, lc, rfl, l1, l2, -⟩ := RowOf.open2 (f := packC) (fun _ => rfl) hv
 have HKN := Lib.hid (fun W1 (h : Ext w W1) => lknown_any W1 (ht.ext h) (hm.ext h))
 have HIS := Lib.hid (fun W1 (h : Ext w W1) => calls_ext (rispacks_any _ ks W1 (HVV.out W1 h)))
 have HPI := Lib.hid (fun W1 (_ : Ext w W1) => calls_ext (pieces_any pieces W1))
 have HIS0 := Lib.hid (fun W1 (h : Ext w W1) => rispacks_any _ ks W1 (HVV.out W1 h))
 have HPI0 := Lib.hid (fun W1 (_ : Ext w W1) => pieces_any pieces W1)
 have HPK := Lib.hid (fun W1 (h : Ext w W1) => Packs_any _ ks pieces W1 (HVV.out W1 h))
 clear hv ht hm
 have hq := Ext.refl w
 by_cases j0 : 6 < ks.length
 ·have t0 : decide ((6 : Int) < (ks.length : Int)) = true := by simp; omega
  clear j0
  go_enter Tryz.func5, Tryz.ntmps5
  go_wp2_with ((go_at_call 15; refine (HKN.out _ hq).mono ?_; rintro e w' ⟨rfl, hx⟩; clear HKN; have hq := hq.trans hx; clear hx))
  go_ret
  exact ⟨rfl, hq⟩
 have t0 : decide ((6 : Int) < (ks.length : Int)) = false := by simp; omega
 cases i2 : isPacksB ks with
 | false =>
  rw [i2] at HIS
  replace HPK := Lib.hid (fun W1 (h : Ext w W1) => (HPK.out W1 h).mono (fun e w' q => packs_no (show PacksRes ks pieces W1 e w' from q) (by unfold okPk; rw [i2]; rfl)))
  clear i2 j0
  go_enter Tryz.func5, Tryz.ntmps5
  go_wp2_with (first | (go_at_call 25; refine (HPK.out _ hq).mono ?_; rintro e w' ⟨rfl, hx⟩; clear HPK; have hq := hq.trans hx; clear hx) | (go_at_call 26; refine (HIS.out _ hq).mono ?_; rintro e w' ⟨rfl, hx⟩; clear HIS; have hq := hq.trans hx; clear hx) | (go_at_call 15; refine (HKN.out _ hq).mono ?_; rintro e w' ⟨rfl, hx⟩; clear HKN; have hq := hq.trans hx; clear hx))
  go_ret
  exact ⟨rfl, hq⟩
 | true =>
 rw [i2] at HIS
 cases i3 : inB pieces 0 600 with
 | false =>
  rw [i3] at HPI
  replace HPK := Lib.hid (fun W1 (h : Ext w W1) => (HPK.out W1 h).mono (fun e w' q => packs_no (show PacksRes ks pieces W1 e w' from q) (by unfold okPk; rw [i2, i3]; rfl)))
  clear i2 i3 j0
  go_enter Tryz.func5, Tryz.ntmps5
  go_wp2_with (first | (go_at_call 25; refine (HPK.out _ hq).mono ?_; rintro e w' ⟨rfl, hx⟩; clear HPK; have hq := hq.trans hx; clear hx) | (go_at_call 26; refine (HIS.out _ hq).mono ?_; rintro e w' ⟨rfl, hx⟩; clear HIS; have hq := hq.trans hx; clear hx) | (go_at_call 27; refine (HPI.out _ hq).mono ?_; rintro e w' ⟨rfl, hx⟩; clear HPI; have hq := hq.trans hx; clear hx) | (go_at_call 15; refine (HKN.out _ hq).mono ?_; rintro e w' ⟨rfl, hx⟩; clear HKN; have hq := hq.trans hx; clear hx))
  go_ret
  exact ⟨rfl, hq⟩
 | true =>
 rw [i3] at HPI
 rw [i2] at HIS0
 rw [i3] at HPI0
 have hK := packsB_iff.1 i2
 obtain ⟨p0, p1⟩ := inB_iff.1 i3
 obtain ⟨N, hN⟩ : ∃ N : Nat, pieces = (N : Int) := ⟨pieces.toNat, by omega⟩
 subst hN
 have hpk : pkP ks (N : Int) = pkAt ks N := by unfold pkP; simp
 replace HPK := Lib.hid (fun W1 (h : Ext w W1) => (HPK.out W1 h).mono (fun e w' q => packs_yes (show PacksRes ks (N : Int) W1 e w' from q) (by unfold okPk; rw [i2, i3]; rfl)))
 rw [hpk] at HPK
 have HRP := Lib.hid (fun W1 (h : Ext w W1) => rpacks_any _ ks N W1 hK (by omega) (HVV.out W1 h))
 generalize pkAt ks N = pk at *
 obtain ⟨c, n⟩ := pk
 simp only at HPK HRP
 generalize c.sum = sm at *
 have t1 : (n == n) = true := by simp
 clear i2 i3 hpk hK p0 p1 j0
 go_enter Tryz.func5, Tryz.ntmps5
 go_upto_region 7 with (first | (go_at_call 25; refine (HPK.out _ hq).mono ?_; rintro e w1 ⟨a1, c1, rfl, hu, hx⟩; clear HPK; have hq := hq.trans hx; clear hx) | (go_at_call 26; refine (HIS0.out _ hq).mono ?_; rintro e w' ⟨rfl, rfl⟩; clear HIS0) | (go_at_call 27; refine (HPI0.out _ hq).mono ?_; rintro e w' ⟨rfl, rfl⟩; clear HPI0) | (go_at_call 28; refine (HRP.out _ hq).mono ?_; rintro e w2 ⟨a2, c2, rfl, hu2, hx⟩; clear HRP; have hu := hu.ext hx; have hq := hq.trans hx; clear hx))
 obtain ⟨W8, hW8⟩ : ∃ W8, W8 = w2.alloc (.cells #[.slice a2 c.length c2, .int .i64 sm, .int .i64 n] 52) := ⟨_, rfl⟩
 have hx8 : Ext w2 W8 := by rw [hW8]; exact (Ext.refl w2).alloc _
 have hb8 : W8.heap[w2.heap.size]? = some (.cells #[.slice a2 c.length c2, .int .i64 sm, .int .i64 n] 52) := by rw [hW8]; exact World.alloc_heap_new _ _
 rw [← hW8]
 have HSA := Lib.hid (sameI_yes _ _ c W8 (hu.ext hx8) (hu2.ext hx8))
 have HQ8 := Lib.hid (hq.trans hx8)
 have HB8 := Lib.hid hb8
 obtain ⟨⟨y0, y1, y2⟩, -⟩ := cells3 hb8
 clear hW8 hu hu2 hx8 hq hb8
 go_wp2_with (first | (go_at_call 29; refine HSA.out.mono ?_; rintro e w3 ⟨rfl, hx3⟩; clear HSA; have hq := HQ8.out.trans hx3; obtain ⟨⟨y0, y1, y2⟩, -⟩ := cells3 (ext_blockP hx3 HB8.out)) | (go_at_call 15; refine (HKN.out _ hq).mono ?_; rintro e w' ⟨rfl, hx⟩; clear HKN; have hq := hq.trans hx; clear hx))
 go_ret
 exact ⟨rfl, hq⟩
end Go.Proofs.YtpebafaigldldaaGreatDoor
