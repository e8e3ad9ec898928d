/- What known asks: the answers, in plain Lean. -/
import Derived.Test.YtokananogogjaaaGreatDoorOtp
import Derived.Test.YtokananogogjaaaGreatDoorOre
import Derived.Test.YtokananogogjaaaGreatDoorOlt
import Derived.Test.YtokananogogjaaaGreatDoorOdd
import Derived.Test.YtokananogogjaaaGreatDoorOwa
import Derived.Test.YtokananogogjaaaGreatDoorOpm
import Derived.Test.YtokananogogjaaaGreatDoorOsr
import Derived.Test.YtokananogogjaaaGreatDoorOpr
import Derived.Test.YtokananogogjaaaGreatDoorOr
import Derived.Test.YtokananogogjaaaGreatDoorOrn
import Derived.Test.YtokananogogjaaaGreatDoorOaq
import Derived.Test.YtokananogogjaaaGreatDoorOsa
import Derived.Test.YtokananogogjaaaGreatDoorRpt
namespace Go.Proofs.YtokananogogjaaaGreatDoor
def kB : Book := { goods := [20, 24, 24, 30], editions := 2, moves := 2, entries := [(0, 0, 1), (0, 3, 3), (1, 0, 0)] }
def kL : List Letter := [(1, 24, 24, 5), (2, 20, 20, 7), (0, 30, 30, 1)]
def kZ (n : Nat) : Buyer := { editions := 3, letters := kL.take n }
def kP : List (Int × Int) := [(144, 100), (12, 10), (1, 1)]
def kS : List Seller := [⟨20, [10, 5], [3, 4]⟩, ⟨5, [10, 2], [4, 5]⟩]
set_option maxRecDepth 100000
theorem k_book : isBookB kB = true := by decide +kernel
theorem k_ask : askErr kB true = 0 := by decide +kernel
theorem k_truths : truthsB kB = 2 := by decide +kernel
theorem k_means : meansB kB 0 1 = [0, 2] := by decide +kernel
theorem k_numbers : numbersB kB 1 1 = [1, 2] := by decide +kernel
theorem k_question : askB kB = (0, 1, 1) := by decide +kernel
theorem k_buyer1 : isBuyerB kB (kZ 1) = true := by decide +kernel
theorem k_buyer2 : isBuyerB kB (kZ 2) = true := by decide +kernel
theorem k_buyer3 : isBuyerB kB (kZ 3) = true := by decide +kernel
theorem k_err1 : letErr kB (kZ 1) = 0 := by decide +kernel
theorem k_err2 : letErr kB (kZ 2) = 0 := by decide +kernel
theorem k_reads : readingsB kB (kZ 2) = [[2], [0]] := by decide +kernel
theorem k_which : whichB kB (kZ 1) = [0, 1] := by decide +kernel
theorem k_odd : oddB kB (kZ 3) = [2] := by decide +kernel
theorem k_wants : wantsB kB (kZ 1) = [(0, 0), (0, 5), (0, 5), (0, 0)] := by decide +kernel
theorem k_okp : okPk kP 155 = true := by decide +kernel
theorem k_packs : pkP kP 155 = ([1, 1, 0], 110) := by decide +kernel
theorem k_sellers : areSellersB kS [10, 5] = true := by decide +kernel
theorem k_buy : ∃ n, buyB kS [10, 5] = some ([[10, 5], [0, 0]], 70, n) := ⟨1, by decide +kernel⟩
def kText : List UInt8 := [98, 111, 111, 107, 32, 49, 32, 48, 10, 103, 111, 111, 100, 32, 49, 48, 10, 103, 111, 111, 100, 32, 49, 48, 10, 101, 110, 100, 32, 48, 53, 56, 10]
def kY : Book := { goods := [10, 10], editions := 1, moves := 0, entries := [] }
theorem k_textN : TextN kY := ⟨by unfold Small; decide, by decide, by intro x hx; cases hx⟩
theorem itoa_d {n : Nat} (h : n < 10) : Lib.itoa (n : Int) = [UInt8.ofNat (48 + n)] := by rw [Lib.itoa_nonneg, Lib.decDigits, dif_pos h]
theorem itoa_dd {n : Nat} (h : 10 ≤ n) (h2 : n < 100) : Lib.itoa (n : Int) = [UInt8.ofNat (48 + n / 10), UInt8.ofNat (48 + n % 10)] := by
 rw [Lib.itoa_nonneg, Lib.decDigits, dif_neg (by omega), Lib.decDigits, dif_pos (by omega)]; rfl
theorem k_lines : linesT kY = [[98, 111, 111, 107, 32, 49, 32, 48], [103, 111, 111, 100, 32, 49, 48], [103, 111, 111, 100, 32, 49, 48]] := by
 have d0 : Lib.itoa 0 = [48] := itoa_d (n := 0) (by omega)
 have d1 : Lib.itoa 1 = [49] := itoa_d (n := 1) (by omega)
 have d10 : Lib.itoa 10 = [49, 48] := itoa_dd (n := 10) (by omega) (by omega)
 simp [linesT, rowsT, kY, lineT, numsT, wBook, wGood, d0, d1, d10]
theorem k_text : textT kY = kText := by
 have d0 : Lib.itoa 0 = [48] := itoa_d (n := 0) (by omega)
 have d5 : Lib.itoa 5 = [53] := itoa_d (n := 5) (by omega)
 have d8 : Lib.itoa 8 = [56] := itoa_d (n := 8) (by omega)
 have hc : checkT (linesT kY) = 58 := by rw [k_lines]; decide +kernel
 unfold textT endL
 rw [hc, k_lines]
 rw [show (58 : Int) / 100 = 0 by decide, show (58 : Int) / 10 % 10 = 5 by decide, show (58 : Int) % 10 = 8 by decide, d0, d5, d8]
 rfl
theorem k_isText : isTextB kText = true ∧ bookOf kText = kY := isText_of ⟨k_textN, k_text⟩
theorem k_bookY : isBookB kY = true := by decide +kernel
end Go.Proofs.YtokananogogjaaaGreatDoor

/- known's values: B, Z, P, S. -/
namespace Go.Proofs.YtokananogogjaaaGreatDoor
open Go.RowKit
set_option maxRecDepth 100000 in
set_option maxHeartbeats 1000000 in
theorem B_any (w : World) : Calls Tryz.prog 29 #[] w fun e w' => ∃ v, e = .returned v ∧ BookAt w' v kB ∧ Ext w w' := by
 go_enter Tryz.func29, Tryz.ntmps29
 go_wp2
 refine bodyPost_ret (v := .agg #[.slice (some ⟨w.heap.size + 1, 0, none⟩) 4 4, .int .i64 2, .int .i64 2, .slice (some ⟨w.heap.size + 1 + 1, 0, none⟩) 3 3]) (by simp [results, Tryz.results29, go_sem]) rfl ?_
 generalize hW : w.alloc (.cells #[.slice (some ⟨w.heap.size + 1, 0, none⟩) 4 4, .int .i64 2, .int .i64 2, .slice (some ⟨w.heap.size + 1 + 1, 0, none⟩) 3 3] 25) = W
 have hs : W.heap.size = w.heap.size + 1 := by rw [← hW]; simp
 have hx : Ext w W := by rw [← hW]; exact (Ext.refl w).alloc _
 have h1 := (RowAt.new W #[.int .i64 20, .int .i64 24, .int .i64 24, .int .i64 30] 62 4 4 (Nat.le_refl _) (by unfold maxLen; omega)).ext ((Ext.refl _).alloc (.cells #[.int .i64 0, .int .i64 0, .int .i64 1, .int .i64 0, .int .i64 3, .int .i64 3, .int .i64 1, .int .i64 0, .int .i64 0] 64))
 have h2 := RowAt.new (W.alloc (.cells #[.int .i64 20, .int .i64 24, .int .i64 24, .int .i64 30] 62)) #[.int .i64 0, .int .i64 0, .int .i64 1, .int .i64 0, .int .i64 3, .int .i64 3, .int .i64 1, .int .i64 0, .int .i64 0] 64 3 3 (Nat.le_refl _) (by unfold maxLen; omega)
 rw [hs] at h1
 rw [World.size_alloc, hs] at h2
 exact ⟨_, rfl, ⟨_, _, rfl, h1, h2⟩, (hx.alloc _).alloc _⟩
theorem letter_any (a b c d : Int) (w : World) : Calls Tryz.prog 60 #[.int .i64 a, .int .i64 b, .int .i64 c, .int .i64 d] w fun e w' => e = .returned (.agg #[.int .i64 a, .int .i64 b, .int .i64 c, .int .i64 d]) ∧ Ext w w' := by
 go_enter Tryz.func60, Tryz.ntmps60
 go_wp2
 exact bodyPost_ret (v := .agg #[.int .i64 a, .int .i64 b, .int .i64 c, .int .i64 d]) (by simp [results, Tryz.results60, go_sem]) rfl ⟨rfl, (Ext.refl _).alloc _⟩
theorem row_prefix {w : World} {v : Value} {n : Nat} {cs ds : List Value} (h : RowAt w v n (cs ++ ds)) : RowAt w v n cs := by
 obtain ⟨a, c, h1, h2, h3, h4, h5⟩ := h
 exact ⟨a, c, h1, h2, h3, h4, fun j u hj => h5 j u (by rw [List.getElem?_append_left (List.getElem?_eq_some_iff.1 hj).1]; exact hj)⟩
theorem zed_cells {n : Nat} (h0 : 1 ≤ n) (h1 : n ≤ 3) : (kZ n).letters.length = n ∧ ∃ ds, (kZ n).letters.flatMap letC ++ ds = [Value.int .i64 1, .int .i64 24, .int .i64 24, .int .i64 5, .int .i64 2, .int .i64 20, .int .i64 20, .int .i64 7, .int .i64 0, .int .i64 30, .int .i64 30, .int .i64 1] := by
 rcases (show n = 1 ∨ n = 2 ∨ n = 3 by omega) with rfl | rfl | rfl <;> exact ⟨rfl, _, rfl⟩
set_option maxRecDepth 100000 in
set_option maxHeartbeats 1000000 in
theorem Z_any (n : Nat) (h0 : 1 ≤ n) (h1 : n ≤ 3) (w : World) : Calls Tryz.prog 33 #[.int .i64 (n : Int)] w fun e w' => ∃ v, e = .returned v ∧ BuyerAt w' v (kZ n) ∧ Ext w w' := by
 have HL := Lib.hid letter_any
 have i1 : (0 : Int) ≤ (n : Int) := by omega
 have i2 : (n : Int) ≤ 3 := by omega
 go_enter Tryz.func33, Tryz.ntmps33
 go_upto_region 1 with fail
 obtain ⟨W0, hW0⟩ : ∃ W0, W0 = w.alloc (.cells #[.int .i64 0, .slice none 0 0] 28) := ⟨_, rfl⟩
 have HX0 := Lib.hid (show Ext w W0 by rw [hW0]; exact (Ext.refl w).alloc _)
 have HB := Lib.hid (show W0.heap[w.heap.size]? = some (.cells #[.int .i64 0, .slice none 0 0] 28 (0, 0)) by rw [hW0]; exact World.alloc_heap_new w _)
 rw [← hW0]
 clear hW0
 have hxA := Ext.refl W0
 go_upto_region 2 with (go_at_call 60; refine (HL.out _ _ _ _ _).mono ?_; rintro e w1 ⟨rfl, hx1⟩; have hxA := hxA.trans hx1; clear hx1)
 have hR := RowAt.new w1 #[.int .i64 1, .int .i64 24, .int .i64 24, .int .i64 5, .int .i64 2, .int .i64 20, .int .i64 20, .int .i64 7, .int .i64 0, .int .i64 30, .int .i64 30, .int .i64 1] 53 n 3 h1 (by unfold maxLen; omega)
 have hxz : Ext W0 (w1.alloc (.cells #[.int .i64 1, .int .i64 24, .int .i64 24, .int .i64 5, .int .i64 2, .int .i64 20, .int .i64 20, .int .i64 7, .int .i64 0, .int .i64 30, .int .i64 30, .int .i64 1] 53)) := hxA.alloc _
 obtain ⟨k, hk⟩ : ∃ k, w1.heap.size = k := ⟨_, rfl⟩
 have hkz : w.heap.size < k := by
  have h2 := hxA.size
  have h3 := (Array.getElem?_eq_some_iff.1 HB.out).1
  omega
 rw [hk] at hR ⊢
 clear hk
 generalize w1.alloc (.cells #[.int .i64 1, .int .i64 24, .int .i64 24, .int .i64 5, .int .i64 2, .int .i64 20, .int .i64 20, .int .i64 7, .int .i64 0, .int .i64 30, .int .i64 30, .int .i64 1] 53) = WZ at *
 have HBZ := Lib.hid ((hxz.block (Array.getElem?_eq_some_iff.1 HB.out).1).trans HB.out)
 have HXZ := Lib.hid (HX0.out.trans hxz)
 obtain ⟨z0, f0⟩ := block_cell HBZ.out (i := 0) rfl
 obtain ⟨z1, f1⟩ := block_cell HBZ.out (i := 1) rfl
 have HR := Lib.hid hR
 have HK := Lib.hid hkz
 clear hR hkz hxz hxA
 go_wp2
 have hb := setCell_block (i := 1) (v := .slice (some ⟨k, 0, none⟩) n 3) (setCell_block (i := 0) (v := .int .i64 3) HBZ.out)
 obtain ⟨r0, -⟩ := block_cell hb (i := 0) rfl
 obtain ⟨r1, -⟩ := block_cell hb (i := 1) rfl
 refine bodyPost_ret (v := .agg #[.int .i64 3, .slice (some ⟨k, 0, none⟩) n 3]) (by simp [results, Tryz.results33, go_sem, r0, r1]) rfl ?_
 have hT : Touch (· = w.heap.size) WZ ((WZ.setCell ⟨w.heap.size, 0, none⟩ (.int .i64 3)).setCell ⟨w.heap.size, 1, none⟩ (.slice (some ⟨k, 0, none⟩) n 3)) := (Touch.setCell (M := (· = w.heap.size)) (a := ⟨w.heap.size, 0, none⟩) _ rfl).trans (Touch.setCell (a := ⟨w.heap.size, 1, none⟩) _ rfl)
 obtain ⟨hl, ds, hds⟩ := zed_cells h0 h1
 refine ⟨_, rfl, ⟨_, rfl, ?_⟩, (HXZ.out.setCell (p := ⟨w.heap.size, 0, none⟩) (Nat.le_refl _) _).setCell (p := ⟨w.heap.size, 1, none⟩) (Nat.le_refl _) _⟩
 show RowAt _ _ (kZ n).letters.length _
 rw [hl]
 refine row_prefix (ds := ds) ?_
 rw [hds]
 obtain ⟨a, c, h2, h3, h4, h5, h6⟩ := HR.out
 refine ⟨a, c, h2, h3, h4, h5, fun j u hj => ?_⟩
 obtain ⟨bb, oo, ha, hc⟩ := h6 j u hj
 refine ⟨bb, oo, ha, hT.cell hc ?_⟩
 cases h2
 cases ha
 have h7 := HK.out
 intro e
 have e : k = w.heap.size := e
 omega
set_option maxRecDepth 100000 in
theorem P_any (w : World) : Calls Tryz.prog 35 #[] w fun e w' => ∃ v, e = .returned v ∧ RowOf packC w' v kP ∧ Ext w w' := by
 go_enter Tryz.func35, Tryz.ntmps35
 go_wp2
 go_ret
 exact ⟨_, rfl, RowAt.new w #[.int .i64 144, .int .i64 100, .int .i64 12, .int .i64 10, .int .i64 1, .int .i64 1] _ 3 3 (Nat.le_refl _) (by unfold maxLen; omega), (Ext.refl w).alloc _⟩
set_option maxRecDepth 100000 in
set_option maxHeartbeats 1000000 in
theorem S_any (w : World) : Calls Tryz.prog 37 #[] w fun e w' => ∃ v, e = .returned v ∧ SellersAt w' v kS ∧ Ext w w' := by
 go_enter Tryz.func37, Tryz.ntmps37
 go_wp2
 go_ret
 have s1 : (w.alloc (.cells #[.int .i64 10, .int .i64 5] 3)).heap.size = w.heap.size + 1 := World.size_alloc _ _
 have s2 : ((w.alloc (.cells #[.int .i64 10, .int .i64 5] 3)).alloc (.cells #[.int .i64 3, .int .i64 4] 3)).heap.size = w.heap.size + 1 + 1 := by rw [World.size_alloc, s1]
 have s3 : (((w.alloc (.cells #[.int .i64 10, .int .i64 5] 3)).alloc (.cells #[.int .i64 3, .int .i64 4] 3)).alloc (.cells #[.int .i64 10, .int .i64 2] 3)).heap.size = w.heap.size + 1 + 1 + 1 := by rw [World.size_alloc, s2]
 have s4 : ((((w.alloc (.cells #[.int .i64 10, .int .i64 5] 3)).alloc (.cells #[.int .i64 3, .int .i64 4] 3)).alloc (.cells #[.int .i64 10, .int .i64 2] 3)).alloc (.cells #[.int .i64 4, .int .i64 5] 3)).heap.size = w.heap.size + 1 + 1 + 1 + 1 := by rw [World.size_alloc, s3]
 have h1 := RowAt.new w #[.int .i64 10, .int .i64 5] 3 2 2 (Nat.le_refl _) (by unfold maxLen; omega)
 have h2 := RowAt.new (w.alloc (.cells #[.int .i64 10, .int .i64 5] 3)) #[.int .i64 3, .int .i64 4] 3 2 2 (Nat.le_refl _) (by unfold maxLen; omega)
 have h3 := RowAt.new ((w.alloc (.cells #[.int .i64 10, .int .i64 5] 3)).alloc (.cells #[.int .i64 3, .int .i64 4] 3)) #[.int .i64 10, .int .i64 2] 3 2 2 (Nat.le_refl _) (by unfold maxLen; omega)
 have h4 := RowAt.new (((w.alloc (.cells #[.int .i64 10, .int .i64 5] 3)).alloc (.cells #[.int .i64 3, .int .i64 4] 3)).alloc (.cells #[.int .i64 10, .int .i64 2] 3)) #[.int .i64 4, .int .i64 5] 3 2 2 (Nat.le_refl _) (by unfold maxLen; omega)
 have h5 := RowAt.new ((((w.alloc (.cells #[.int .i64 10, .int .i64 5] 3)).alloc (.cells #[.int .i64 3, .int .i64 4] 3)).alloc (.cells #[.int .i64 10, .int .i64 2] 3)).alloc (.cells #[.int .i64 4, .int .i64 5] 3)) #[.int .i64 20, .slice (some ⟨w.heap.size, 0, none⟩) 2 2, .slice (some ⟨w.heap.size + 1, 0, none⟩) 2 2, .int .i64 5, .slice (some ⟨w.heap.size + 1 + 1, 0, none⟩) 2 2, .slice (some ⟨w.heap.size + 1 + 1 + 1, 0, none⟩) 2 2] 139 2 2 (Nat.le_refl _) (by unfold maxLen; omega)
 rw [s1] at h2
 rw [s2] at h3
 rw [s3] at h4
 rw [s4] at h5
 refine ⟨.slice (some ⟨w.heap.size + 1 + 1 + 1 + 1, 0, none⟩) 2 2, rfl, ⟨[⟨.slice (some ⟨w.heap.size, 0, none⟩) 2 2, .slice (some ⟨w.heap.size + 1, 0, none⟩) 2 2, ⟨20, [10, 5], [3, 4]⟩⟩, ⟨.slice (some ⟨w.heap.size + 1 + 1, 0, none⟩) 2 2, .slice (some ⟨w.heap.size + 1 + 1 + 1, 0, none⟩) 2 2, ⟨5, [10, 2], [4, 5]⟩⟩], rfl, h5, ?_⟩, (((((Ext.refl w).alloc _).alloc _).alloc _).alloc _).alloc _⟩
 intro r hr
 simp only [List.mem_cons, List.mem_nil_iff, or_false] at hr
 rcases hr with rfl | rfl
 ·exact ⟨h1.ext (((((Ext.refl _).alloc _).alloc _).alloc _).alloc _), h2.ext ((((Ext.refl _).alloc _).alloc _).alloc _)⟩
 ·exact ⟨h3.ext (((Ext.refl _).alloc _).alloc _), h4.ext ((Ext.refl _).alloc _)⟩
end Go.Proofs.YtokananogogjaaaGreatDoor

/- known's calls, each at its input. -/
namespace Go.Proofs.YtokananogogjaaaGreatDoor
open Go.RowKit
theorem k_book' : BookB kB := bookB_of k_book
theorem k_fine (e n : Int) (h : (isEditionW kB e && isNumberB kB n) = true) : askErr kB (isEditionW kB e && isNumberB kB n) = 0 := by rw [h]; exact k_ask
theorem kMeans (v : Value) (w : World) (hb : BookAt w v kB) : Calls Tryz.prog 18 #[v, .int .i64 0, .int .i64 1] w fun e w' => ∃ u, e = .returned (.tuple #[u, .int .i64 0]) ∧ IntsAt w' u [0, 2] ∧ Ext w w' := by
 refine (means_any v kB 0 1 w hb).mono fun e w' h => ?_
 have hz := k_fine 0 1 (by decide +kernel)
 rcases h.2 with ⟨h1, _⟩ | ⟨_, u, h2, h3⟩
 ·exact absurd hz h1
 ·exact ⟨u, h2, by rw [← k_means]; exact h3, h.1⟩
theorem kNumbers (v : Value) (w : World) (hb : BookAt w v kB) : Calls Tryz.prog 30 #[v, .int .i64 1, .int .i64 1] w fun e w' => ∃ u, e = .returned (.tuple #[u, .int .i64 0]) ∧ IntsAt w' u [1, 2] ∧ Ext w w' := by
 refine (numbers_any v kB 1 1 w hb).mono fun e w' h => ?_
 have hz := k_fine 1 1 (by decide +kernel)
 rcases h.2 with ⟨h1, _⟩ | ⟨_, u, h2, h3⟩
 ·exact absurd hz h1
 ·exact ⟨u, h2, by rw [← k_numbers]; exact h3, h.1⟩
theorem kTruths (v : Value) (w : World) (hb : BookAt w v kB) : Calls Tryz.prog 31 #[v] w fun e w' => e = .returned (.tuple #[.int .i64 2, .int .i64 0]) ∧ Ext w w' := by
 refine (Truths_any v kB w hb).mono fun e w' h => ?_
 rcases h.2 with ⟨h1, _⟩ | ⟨_, h2⟩
 ·exact absurd k_ask h1
 ·rw [k_truths] at h2; exact ⟨h2, h.1⟩
theorem kAsk (v : Value) (w : World) (hb : BookAt w v kB) : Calls Tryz.prog 32 #[v] w fun e w' => e = .returned (.tuple #[.int .i64 0, .int .i64 1, .int .i64 1, .int .i64 0]) ∧ Ext w w' := by
 refine (Ask_any v kB w hb).mono fun e w' h => ?_
 rcases h.2 with ⟨h1, _⟩ | ⟨_, h1, _⟩ | ⟨_, _, h2⟩
 ·exact absurd k_ask h1
 ·rw [k_truths] at h1; cases h1
 ·rw [k_question] at h2; exact ⟨h2, h.1⟩
theorem kReads (v xv : Value) (w : World) (hb : BookAt w v kB) (hx : BuyerAt w xv (kZ 2)) : Calls Tryz.prog 14 #[v, xv] w fun e w' => ∃ u, e = .returned (.tuple #[u, .int .i64 0]) ∧ IntRowsAt w' u [[2], [0]] ∧ Ext w w' := by
 refine (Reads_any v xv kB (kZ 2) w k_book' hb hx).mono fun e w' h => ?_
 rcases h.2 with ⟨h1, _⟩ | ⟨_, u, h2, h3⟩
 ·exact absurd k_err2 h1
 ·exact ⟨u, h2, by rw [← k_reads]; exact h3, h.1⟩
theorem kWhich (v xv : Value) (w : World) (hb : BookAt w v kB) (hx : BuyerAt w xv (kZ 1)) : Calls Tryz.prog 15 #[v, xv] w fun e w' => ∃ u, e = .returned (.tuple #[u, .int .i64 0]) ∧ IntsAt w' u [0, 1] ∧ Ext w w' := by
 refine (Which_any v xv kB (kZ 1) w k_book' hb hx).mono fun e w' h => ?_
 rcases h.2 with ⟨h1, _⟩ | ⟨_, u, h2, h3⟩
 ·exact absurd k_err1 h1
 ·exact ⟨u, h2, by rw [← k_which]; exact h3, h.1⟩
theorem kOdd (v xv : Value) (w : World) (hb : BookAt w v kB) (hx : BuyerAt w xv (kZ 3)) : Calls Tryz.prog 21 #[v, xv] w fun e w' => ∃ u, e = .returned (.tuple #[u, .int .i64 0]) ∧ IntsAt w' u [2] ∧ Ext w w' := by
 refine (Odd_any v xv kB (kZ 3) w k_book' hb hx).mono fun e w' h => ?_
 rcases h.2 with ⟨h1, _⟩ | ⟨_, u, h2, h3⟩
 ·exact absurd (by rw [k_buyer3]; exact k_ask) h1
 ·exact ⟨u, h2, by rw [← k_odd]; exact h3, h.1⟩
theorem kWants (v xv : Value) (w : World) (hb : BookAt w v kB) (hx : BuyerAt w xv (kZ 1)) : Calls Tryz.prog 16 #[v, xv] w fun e w' => ∃ u, e = .returned (.tuple #[u, .int .i64 0]) ∧ SpansAt w' u [(0, 0), (0, 5), (0, 5), (0, 0)] ∧ Ext w w' := by
 refine (Wants_any v xv kB (kZ 1) w k_book' hb hx).mono fun e w' h => ?_
 rcases h.2 with ⟨h1, _⟩ | ⟨_, u, h2, h3⟩
 ·exact absurd k_err1 h1
 ·exact ⟨u, h2, by rw [← k_wants]; exact h3, h.1⟩
theorem kPacks (v : Value) (w : World) (hv : RowOf packC w v kP) : Calls Tryz.prog 34 #[v, .int .i64 155] w fun e w' => ∃ u, e = .returned (.tuple #[u, .int .i64 110, .int .i64 0]) ∧ IntsAt w' u [1, 1, 0] ∧ Ext w w' := by
 refine (Packs_any v kP 155 w hv).mono fun e w' h => ?_
 rcases h.2 with ⟨h1, _⟩ | ⟨_, u, h2, h3⟩
 ·rw [k_okp] at h1; cases h1
 ·rw [k_packs] at h2 h3; exact ⟨u, h2, h3, h.1⟩
theorem kBuy (v wv : Value) (w : World) (hv : SellersAt w v kS) (hw : IntsAt w wv [10, 5]) : Calls Tryz.prog 36 #[v, wv] w fun e w' => ∃ u, e = .returned (.tuple #[u, .int .i64 70, .int .i64 0]) ∧ IntRowsAt w' u [[10, 5], [0, 0]] ∧ Ext w w' := by
 refine (Buy_any v wv kS [10, 5] w hv hw).mono fun e w' h => ?_
 obtain ⟨n, hn⟩ := k_buy
 rcases h.2 with ⟨h1, _⟩ | ⟨_, h1, _⟩ | ⟨_, x, u, h1, h2, h3⟩
 ·rw [k_sellers] at h1; cases h1
 ·rw [hn] at h1; cases h1
 ·rw [hn] at h1
  cases h1
  exact ⟨u, h2, h3, h.1⟩
theorem kRead (w : World) (ht : TabOk w) (hm : MaxOk w) : Calls Tryz.prog 38 #[strV kText] w fun e w' => ∃ ga gc ea ec, e = .returned (.tuple #[.agg #[.slice ga 2 gc, .int .i64 1, .int .i64 0, .slice ea 0 ec], .int .i64 0]) ∧ BookAt w' (.agg #[.slice ga 2 gc, .int .i64 1, .int .i64 0, .slice ea 0 ec]) kY ∧ Ext w w' := by
 refine (Read_any kText w ht hm (by decide)).mono fun e w' h => ?_
 obtain ⟨v, err, h1, h2, _, _, h5⟩ := h
 have h6 := (h5 (by decide) k_isText.1).1
 rw [k_isText.2] at h6
 obtain ⟨rfl, h8⟩ := h6 k_bookY
 obtain ⟨ga, gc, ea, ec, rfl, _⟩ := h8.open
 exact ⟨ga, gc, ea, ec, h1, h8, h2⟩
theorem k_small : TextSmall kY := ⟨k_textN, by decide, by decide⟩
theorem kPrint (v : Value) (w : World) (hb : BookAt w v kY) : Calls Tryz.prog 42 #[v] w fun e w' => e = .returned (strV kText) ∧ Ext w w' := by
 rw [← k_text]; exact rprint_any v kY w hb k_small
end Go.Proofs.YtokananogogjaaaGreatDoor

/- The law's known: true. -/
namespace Go.Proofs.YtokananogogjaaaGreatDoor
open Go.RowKit
theorem lists_new (w : World) (xs ys : List Int) (n m : Nat) (hn : n = xs.length) (hm : m = ys.length) (h1 : n ≤ 1000) (h2 : m ≤ 1000) :
 IntRowsAt (((w.alloc (.cells (xs.map (.int .i64)).toArray 3)).alloc (.cells (ys.map (.int .i64)).toArray 3)).alloc (.cells #[.slice (some ⟨w.heap.size, 0, none⟩) n n, .slice (some ⟨w.heap.size + 1, 0, none⟩) m m] 42)) (.slice (some ⟨w.heap.size + 1 + 1, 0, none⟩) 2 2) [xs, ys] := by
 have a1 := ints_new w xs n hn h1
 have a2 := ints_new (w.alloc (.cells (xs.map (.int .i64)).toArray 3)) ys m hm h2
 have a3 := RowAt.new ((w.alloc (.cells (xs.map (.int .i64)).toArray 3)).alloc (.cells (ys.map (.int .i64)).toArray 3)) #[.slice (some ⟨w.heap.size, 0, none⟩) n n, .slice (some ⟨w.heap.size + 1, 0, none⟩) m m] 42 2 2 (Nat.le_refl _) (by unfold maxLen; omega)
 rw [World.size_alloc] at a2
 rw [World.size_alloc, World.size_alloc] at a3
 refine ⟨[(.slice (some ⟨w.heap.size, 0, none⟩) n n, xs), (.slice (some ⟨w.heap.size + 1, 0, none⟩) m m, ys)], rfl, a3, fun x hx => ?_⟩
 simp only [List.mem_cons, List.mem_nil_iff, or_false] at hx
 rcases hx with rfl | rfl
 ·exact a1.ext (((Ext.refl _).alloc _).alloc _)
 ·exact a2.ext ((Ext.refl _).alloc _)
theorem spans_new (w : World) : SpansAt (w.alloc (.cells #[.int .i64 0, .int .i64 0, .int .i64 0, .int .i64 5, .int .i64 0, .int .i64 5, .int .i64 0, .int .i64 0] 51)) (.slice (some ⟨w.heap.size, 0, none⟩) 4 4) [(0, 0), (0, 5), (0, 5), (0, 0)] :=
 RowAt.new w #[.int .i64 0, .int .i64 0, .int .i64 0, .int .i64 5, .int .i64 0, .int .i64 5, .int .i64 0, .int .i64 0] 51 4 4 (Nat.le_refl _) (by unfold maxLen; omega)
set_option maxRecDepth 100000 in
set_option maxHeartbeats 8000000 in
theorem lknown_any (w : World) (ht : TabOk w) (hm : MaxOk w) : Calls Tryz.prog 13 #[] w fun e w' => e = .returned (.bool true) ∧ Ext w w' := by
 have HB := Lib.hid B_any
 have HZ := Lib.hid Z_any
 have HP := Lib.hid P_any
 have HS := Lib.hid S_any
 have HM := Lib.hid kMeans
 have HN := Lib.hid kNumbers
 have HTR := Lib.hid kTruths
 have HA := Lib.hid kAsk
 have HRD := Lib.hid kReads
 have HWH := Lib.hid kWhich
 have HOD := Lib.hid kOdd
 have HWA := Lib.hid kWants
 have HPA := Lib.hid kPacks
 have HBU := Lib.hid kBuy
 have HRE := Lib.hid (fun w1 (hx : Ext w w1) => (show Calls Tryz.prog 38 #[.string ⟨#[98, 111, 111, 107, 32, 49, 32, 48, 10, 103, 111, 111, 100, 32, 49, 48, 10, 103, 111, 111, 100, 32, 49, 48, 10, 101, 110, 100, 32, 48, 53, 56, 10]⟩] w1 _ from kRead w1 (ht.ext hx) (hm.ext hx)))
 clear ht hm
 go_enter Tryz.func13, Tryz.ntmps13
 go_upto_region 2 with (first
  | (go_at_call 29; refine (HB.out _).mono ?_; rintro e wB ⟨vB, rfl, hB, hxB⟩)
  | (go_at_call 18; refine (HM.out _ _ hB).mono ?_; rintro e w1 ⟨u1, rfl, hu1, hx1⟩; have hx1 := hxB.trans hx1; clear hB hxB))
 have H1 := Lib.hid (fun W (h : Ext w1 W) => (And.intro (hu1.ext h) (hx1.trans h)))
 clear hu1 hx1
 go_upto_region 3 with (first
  | (go_at_call 29; refine (HB.out _).mono ?_; rintro e wB ⟨vB, rfl, hB, hxB⟩)
  | (go_at_call 30; refine (HN.out _ _ hB).mono ?_; rintro e w2 ⟨u2, rfl, hu2, hx2⟩; have hx2 := hxB.trans hx2; clear hB hxB))
 have H2 := Lib.hid (fun W (h : Ext w2 W) => (And.intro (hu2.ext h) (H1.out W (hx2.trans h))))
 clear hu2 hx2
 go_upto_region 5 with (first
  | (go_at_call 29; refine (HB.out _).mono ?_; rintro e wB ⟨vB, rfl, hB, hxB⟩)
  | (go_at_call 31; refine (HTR.out _ _ hB).mono ?_; rintro e w3 ⟨rfl, hx3⟩; have hx3 := hxB.trans hx3; clear hB hxB)
  | (go_at_call 32; refine (HA.out _ _ hB).mono ?_; rintro e w4 ⟨rfl, hx4⟩; have hx4 := hx3.trans (hxB.trans hx4); clear hB hxB))
 have H4 := Lib.hid (fun W (h : Ext w4 W) => (H2.out W (hx4.trans h)))
 clear hx3 hx4
 go_upto_region 6 with (first
  | (go_at_call 29; refine (HB.out _).mono ?_; rintro e wB ⟨vB, rfl, hB, hxB⟩)
  | (go_at_call 33; refine (HZ.out 2 (by omega) (by omega) _).mono ?_; rintro e wZ ⟨vZ, rfl, hZ, hxZ⟩; have hB := hB.ext hxZ; have hxB := hxB.trans hxZ; clear hxZ)
  | (go_at_call 14; refine (HRD.out _ _ _ hB hZ).mono ?_; rintro e w5 ⟨u5, rfl, hu5, hx5⟩; have hx5 := hxB.trans hx5; clear hB hxB hZ))
 have H5 := Lib.hid (fun W (h : Ext w5 W) => (And.intro (hu5.ext h) (H4.out W (hx5.trans h))))
 clear hu5 hx5
 go_upto_region 7 with (first
  | (go_at_call 29; refine (HB.out _).mono ?_; rintro e wB ⟨vB, rfl, hB, hxB⟩)
  | (go_at_call 33; refine (HZ.out 1 (by omega) (by omega) _).mono ?_; rintro e wZ ⟨vZ, rfl, hZ, hxZ⟩; have hB := hB.ext hxZ; have hxB := hxB.trans hxZ; clear hxZ)
  | (go_at_call 15; refine (HWH.out _ _ _ hB hZ).mono ?_; rintro e w6 ⟨u6, rfl, hu6, hx6⟩; have hx6 := hxB.trans hx6; clear hB hxB hZ))
 have H6 := Lib.hid (fun W (h : Ext w6 W) => (And.intro (hu6.ext h) (H5.out W (hx6.trans h))))
 clear hu6 hx6
 go_upto_region 8 with (first
  | (go_at_call 29; refine (HB.out _).mono ?_; rintro e wB ⟨vB, rfl, hB, hxB⟩)
  | (go_at_call 33; refine (HZ.out 3 (by omega) (by omega) _).mono ?_; rintro e wZ ⟨vZ, rfl, hZ, hxZ⟩; have hB := hB.ext hxZ; have hxB := hxB.trans hxZ; clear hxZ)
  | (go_at_call 21; refine (HOD.out _ _ _ hB hZ).mono ?_; rintro e w7 ⟨u7, rfl, hu7, hx7⟩; have hx7 := hxB.trans hx7; clear hB hxB hZ))
 have H7 := Lib.hid (fun W (h : Ext w7 W) => (And.intro (hu7.ext h) (H6.out W (hx7.trans h))))
 clear hu7 hx7
 go_upto_region 9 with (first
  | (go_at_call 29; refine (HB.out _).mono ?_; rintro e wB ⟨vB, rfl, hB, hxB⟩)
  | (go_at_call 33; refine (HZ.out 1 (by omega) (by omega) _).mono ?_; rintro e wZ ⟨vZ, rfl, hZ, hxZ⟩; have hB := hB.ext hxZ; have hxB := hxB.trans hxZ; clear hxZ)
  | (go_at_call 16; refine (HWA.out _ _ _ hB hZ).mono ?_; rintro e w8 ⟨u8, rfl, hu8, hx8⟩; have hx8 := hxB.trans hx8; clear hB hxB hZ))
 have H8 := Lib.hid (fun W (h : Ext w8 W) => (And.intro (RowAt.ext hu8 h) (H7.out W (hx8.trans h))))
 clear hu8 hx8
 go_upto_region 10 with (first
  | (go_at_call 35; refine (HP.out _).mono ?_; rintro e wB ⟨vB, rfl, hB, hxB⟩)
  | (go_at_call 34; refine (HPA.out _ _ hB).mono ?_; rintro e w9 ⟨u9, rfl, hu9, hx9⟩; have hx9 := hxB.trans hx9; clear hB hxB))
 have H9 := Lib.hid (fun W (h : Ext w9 W) => (And.intro (hu9.ext h) (H8.out W (hx9.trans h))))
 clear hu9 hx9
 go_upto_region 11 with (first
  | (go_at_call 37; refine (HS.out _).mono ?_; rintro e wB ⟨vB, rfl, hB, hxB⟩)
  | (go_at_call 36; refine (HBU.out _ _ _ (hB.ext ((Ext.refl _).alloc _)) (ints_new _ [10, 5] 2 rfl (by omega))).mono ?_; rintro e w10 ⟨u10, rfl, hu10, hx10⟩; have hx10 := hxB.trans (((Ext.refl _).alloc _).trans hx10); clear hB hxB))
 have H10 := Lib.hid (fun W (h : Ext w10 W) => (And.intro (hu10.ext h) (H9.out W (hx10.trans h))))
 clear hu10 hx10
 go_upto_region 12 with (go_at_call 38; refine (HRE.out _ (H10.out _ (Ext.refl _)).2.2.2.2.2.2.2.2).mono ?_; rintro e w11 ⟨ga, gc, ea, ec, rfl, hy, hx11⟩)
 obtain ⟨W12, HW⟩ : ∃ W12, Hid (W12 = w11.alloc (bookBox (.slice ga 2 gc) kY (.slice ea 0 ec))) := ⟨_, rfl⟩
 have hx12 : Ext w10 W12 := by rw [HW.out]; exact hx11.trans ((Ext.refl _).alloc _)
 have HY := Lib.hid (fun W (h : Ext W12 W) => (show BookAt W (.agg #[.slice ga 2 gc, .int .i64 1, .int .i64 0, .slice ea 0 ec]) kY from hy.ext ((show Ext w11 W12 by rw [HW.out]; exact (Ext.refl _).alloc _).trans h)))
 obtain ⟨k, hk⟩ : ∃ k, w11.heap.size = k := ⟨_, rfl⟩
 have HC := Lib.hid (fun W (h : Ext W12 W) => (show BoxAt W k (.slice ga 2 gc) kY (.slice ea 0 ec) from BoxAt.ext (by rw [HW.out, ← hk]; exact BoxAt.new w11 _ kY _) h))
 rw [show w11.alloc (.cells #[.slice ga 2 gc, .int .i64 1, .int .i64 0, .slice ea 0 ec] 25) = W12 from HW.out.symm, hk]
 have HH := Lib.hid (fun W (h : Ext W12 W) => H10.out W (hx12.trans h))
 clear hy hx11 hx12 hk
 have G1 := Lib.hid (fun W (h : Ext W12 W) => sameI_yes u1 (.slice (some ⟨W.heap.size, 0, none⟩) 2 2) [0, 2] (W.alloc (.cells #[.int .i64 0, .int .i64 2] 3)) (HH.out _ (h.alloc _)).2.2.2.2.2.2.2.1 (ints_new W [0, 2] 2 rfl (by omega)))
 have G2 := Lib.hid (fun W (h : Ext W12 W) => sameI_yes u2 (.slice (some ⟨W.heap.size, 0, none⟩) 2 2) [1, 2] (W.alloc (.cells #[.int .i64 1, .int .i64 2] 3)) (HH.out _ (h.alloc _)).2.2.2.2.2.2.1 (ints_new W [1, 2] 2 rfl (by omega)))
 have G5 := Lib.hid (fun W (h : Ext W12 W) => sameLL_yes u5 (.slice (some ⟨W.heap.size + 1 + 1, 0, none⟩) 2 2) [[2], [0]] (((W.alloc (.cells #[.int .i64 2] 3)).alloc (.cells #[.int .i64 0] 3)).alloc (.cells #[.slice (some ⟨W.heap.size, 0, none⟩) 1 1, .slice (some ⟨W.heap.size + 1, 0, none⟩) 1 1] 42)) (HH.out _ (((h.alloc _).alloc _).alloc _)).2.2.2.2.2.1 (lists_new W [2] [0] 1 1 rfl rfl (by omega) (by omega)))
 have G6 := Lib.hid (fun W (h : Ext W12 W) => sameI_yes u6 (.slice (some ⟨W.heap.size, 0, none⟩) 2 2) [0, 1] (W.alloc (.cells #[.int .i64 0, .int .i64 1] 3)) (HH.out _ (h.alloc _)).2.2.2.2.1 (ints_new W [0, 1] 2 rfl (by omega)))
 have G7 := Lib.hid (fun W (h : Ext W12 W) => sameI_yes u7 (.slice (some ⟨W.heap.size, 0, none⟩) 1 1) [2] (W.alloc (.cells #[.int .i64 2] 3)) (HH.out _ (h.alloc _)).2.2.2.1 (ints_new W [2] 1 rfl (by omega)))
 have G8 := Lib.hid (fun W (h : Ext W12 W) => sameS_yes u8 (.slice (some ⟨W.heap.size, 0, none⟩) 4 4) [(0, 0), (0, 5), (0, 5), (0, 0)] _ (HH.out _ (h.alloc _)).2.2.1 (spans_new W))
 have G9 := Lib.hid (fun W (h : Ext W12 W) => sameI_yes u9 (.slice (some ⟨W.heap.size, 0, none⟩) 3 3) [1, 1, 0] (W.alloc (.cells #[.int .i64 1, .int .i64 1, .int .i64 0] 3)) (HH.out _ (h.alloc _)).2.1 (ints_new W [1, 1, 0] 3 rfl (by omega)))
 have G10 := Lib.hid (fun W (h : Ext W12 W) => sameLL_yes u10 (.slice (some ⟨W.heap.size + 1 + 1, 0, none⟩) 2 2) [[10, 5], [0, 0]] (((W.alloc (.cells #[.int .i64 10, .int .i64 5] 3)).alloc (.cells #[.int .i64 0, .int .i64 0] 3)).alloc (.cells #[.slice (some ⟨W.heap.size, 0, none⟩) 2 2, .slice (some ⟨W.heap.size + 1, 0, none⟩) 2 2] 42)) (HH.out _ (((h.alloc _).alloc _).alloc _)).1 (lists_new W [10, 5] [0, 0] 2 2 rfl rfl (by omega) (by omega)))
 have G11 := Lib.hid (fun W (h : Ext W12 W) => (show Calls Tryz.prog 42 #[.agg #[.slice ga 2 gc, .int .i64 1, .int .i64 0, .slice ea 0 ec]] W (fun e w' => e = .returned (.string ⟨#[98, 111, 111, 107, 32, 49, 32, 48, 10, 103, 111, 111, 100, 32, 49, 48, 10, 103, 111, 111, 100, 32, 49, 48, 10, 101, 110, 100, 32, 48, 53, 56, 10]⟩) ∧ Ext W w') from kPrint _ W (HY.out W h)))
 have hxc := Ext.refl W12
 clear HB HZ HP HS HM HN HTR HA HRD HWH HOD HWA HPA HBU HRE H1 H2 H4 H5 H6 H7 H8 H9 H10
 go_upto_region 14 with fail
 go_upto_region 16 with (first
  | (go_at_call 39; refine (G1.out _ hxc).mono ?_; rintro e w' ⟨rfl, hxs⟩; have hxc := hxc.trans (((Ext.refl _).alloc _).trans hxs); clear hxs G1)
  | (go_at_call 39; refine (G2.out _ hxc).mono ?_; rintro e w' ⟨rfl, hxs⟩; have hxc := hxc.trans (((Ext.refl _).alloc _).trans hxs); clear hxs G2)
  | (go_at_call 40; refine (G5.out _ hxc).mono ?_; rintro e w' ⟨rfl, hxs⟩; have hxc := hxc.trans (((((Ext.refl _).alloc _).alloc _).alloc _).trans hxs); clear hxs G5)
  | (go_at_call 39; refine (G6.out _ hxc).mono ?_; rintro e w' ⟨rfl, hxs⟩; have hxc := hxc.trans (((Ext.refl _).alloc _).trans hxs); clear hxs G6)
  | (go_at_call 39; refine (G7.out _ hxc).mono ?_; rintro e w' ⟨rfl, hxs⟩; have hxc := hxc.trans (((Ext.refl _).alloc _).trans hxs); clear hxs G7))
 go_wp2_with (first
  | (go_at_call 41; refine (G8.out _ hxc).mono ?_; rintro e w' ⟨rfl, hxs⟩; have hxc := hxc.trans (((Ext.refl _).alloc _).trans hxs); clear hxs G8)
  | (go_at_call 39; refine (G9.out _ hxc).mono ?_; rintro e w' ⟨rfl, hxs⟩; have hxc := hxc.trans (((Ext.refl _).alloc _).trans hxs); clear hxs G9)
  | (go_at_call 40; refine (G10.out _ hxc).mono ?_; rintro e w' ⟨rfl, hxs⟩; have hxc := hxc.trans (((((Ext.refl _).alloc _).alloc _).alloc _).trans hxs); clear hxs G10; obtain ⟨c0, c1, c2, c3⟩ := HC.out _ hxc)
  | (go_at_call 42; refine (G11.out _ hxc).mono ?_; rintro e w' ⟨rfl, hxs⟩; have hxc := hxc.trans hxs; clear hxs G11))
 go_ret
 exact ⟨rfl, (HH.out _ hxc).2.2.2.2.2.2.2.2⟩
end Go.Proofs.YtokananogogjaaaGreatDoor
