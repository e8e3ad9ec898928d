/- river.told: the numbers of a line, or giving up. -/
import Derived.Test.YtdmdabhdcpjkiaaGreatDoorTextr
namespace Go.Proofs.YtdmdabhdcpjkiaaGreatDoor
open Go.RowKit
theorem owns_down {w : World} {base base' : Nat} {e : TypeId} {size : Nat} {v : Value} {n : Nat} {xs : List Value} (h : w.ownsRow base e size v n xs) (hb : base' ≤ base) : w.ownsRow base' e size v n xs := by
 refine ⟨h.1, ?_⟩
 rcases h.2 with h1 | ⟨g, cap, cur, h1, h2, h3⟩
 ·exact .inl h1
 ·exact .inr ⟨g, cap, cur, h1, by omega, h3⟩
set_option maxRecDepth 100000 in
set_option maxHeartbeats 8000000 in
theorem told_len (s word : List UInt8) (M : Nat) (w : World) (hm : MaxOk w) (hs : s.length ≤ 1000) (hM : 2 ≤ M ∧ M ≤ 3000) (hl : (splitL 32 s).length ≠ M + 1) : Calls Tryz.prog 115 #[strV s, strV word, .int .i64 M] w (StrangeP w) := by
 have HSP := Lib.hid (split_any s 32 w hm hs)
 have HSN := Lib.hid sure_no
 obtain ⟨M1, M2⟩ := hM
 have E1 : IntKind.i64.wrap ((M : Int) + 1) = (M : Int) + 1 := IntWalk.i64_in _ (by omega)
 have t1 : (((splitL 32 s).length : Int) == (M : Int) + 1) = false := by rw [beq_eq_false_iff_ne]; omega
 generalize (splitL 32 s).length = L at *
 clear hl M1 M2 hm
 go_enter Tryz.func115, Tryz.ntmps115
 go_wp2_with (first | (go_at_call 114; refine HSP.out.mono ?_; rintro e w1 ⟨b, rfl, hx1, hst⟩; clear hst) | (go_at_call 116; refine (HSN.out _ _).mono ?_; rintro e w9 ⟨why, rfl, hx9⟩))
 exact ⟨rfl, why, rfl, hx1.trans hx9⟩
set_option maxRecDepth 100000 in
set_option maxHeartbeats 8000000 in
theorem told_word (s word : List UInt8) (M : Nat) (w : World) (hm : MaxOk w) (hs : s.length ≤ 1000) (hM : 2 ≤ M ∧ M ≤ 3000) (hl : (splitL 32 s).length = M + 1) (hw : (splitL 32 s).headD [] ≠ word) : Calls Tryz.prog 115 #[strV s, strV word, .int .i64 M] w (StrangeP w) := by
 have HSP := Lib.hid (split_any s 32 w hm hs)
 have HSN := Lib.hid sure_no
 obtain ⟨M1, M2⟩ := hM
 have E1 : IntKind.i64.wrap ((M : Int) + 1) = (M : Int) + 1 := IntWalk.i64_in _ (by omega)
 have t1 : ((M : Int) + 1 == (M : Int) + 1) = true := by simp
 have b0 : (0 : Int) < (M : Int) + 1 := by omega
 have b0n : 0 < M + 1 := by omega
 rw [hl] at HSP
 obtain ⟨q, hq⟩ : ∃ q, Hid ((splitL 32 s)[0]? = some q) := by
  cases h : splitL 32 s with
  | nil => exact absurd h (splitL_ne 32 s)
  | cons x t => exact ⟨x, rfl⟩
 have hqd : (splitL 32 s).headD [] = q := by
  have hq := hq.out
  cases h : splitL 32 s with
  | nil => exact absurd h (splitL_ne 32 s)
  | cons x t => rw [h] at hq; simpa using hq
 rw [hqd] at hw
 have w1n : decide (q = word) = false := by simpa using hw
 have w2n : (q == word) = false := by simpa using hw
 clear hl hm hw hqd
 go_enter Tryz.func115, Tryz.ntmps115
 go_wp2_with (first | (go_at_call 114; refine HSP.out.mono ?_; rintro e w1 ⟨b, rfl, hx1, hst⟩; have z0 := strs_cell hst hq.out; clear hst) | (go_at_call 116; refine (HSN.out _ _).mono ?_; rintro e w9 ⟨why, rfl, hx9⟩))
 exact ⟨rfl, why, rfl, hx1.trans hx9⟩
set_option maxRecDepth 100000 in
set_option maxHeartbeats 8000000 in
theorem told_go (s word : List UInt8) (M : Nat) (w : World) (ht : TabOk w) (hm : MaxOk w) (hs : s.length ≤ 1000) (hM : 2 ≤ M ∧ M ≤ 3000) (hl : (splitL 32 s).length = M + 1) (hw : (splitL 32 s).headD [] = word) :
  Calls Tryz.prog 115 #[strV s, strV word, .int .i64 M] w fun e w' => ((∀ x, x ∈ (splitL 32 s).drop 1 → numOk x = true) ∧ ∃ v1, e = .returned v1 ∧ Ext w w' ∧ w'.ownsRow w.heap.size 3 1 v1 (toldN s).length ((toldN s).map (.int .i64))) ∨ ((¬ ∀ x, x ∈ (splitL 32 s).drop 1 → numOk x = true) ∧ StrangeP w e w') := by
 have HSP := Lib.hid (split_any s 32 w hm hs)
 have HSU := Lib.hid sure_yes
 obtain ⟨M1, M2⟩ := hM
 have E1 : IntKind.i64.wrap ((M : Int) + 1) = (M : Int) + 1 := IntWalk.i64_in _ (by omega)
 have t1 : ((M : Int) + 1 == (M : Int) + 1) = true := by simp
 have b0 : (0 : Int) < (M : Int) + 1 := by omega
 have b0n : 0 < M + 1 := by omega
 have hM0 : ¬ M = 0 := by omega
 have HL := Lib.hid hl
 have HNY := Lib.hid (fun l w1 (hx : Ext w w1) (h : numOk l = true) => number_yes l w1 (ht.ext hx) h)
 have HNN := Lib.hid (fun l w1 (hx : Ext w w1) (h : numOk l = false) => number_no l w1 (ht.ext hx) h)
 have HTLD : Hid ((toldN s).length = M) := by unfold Hid toldN; rw [List.length_map, List.length_drop]; omega
 rw [hl] at HSP
 obtain ⟨q, hq⟩ : ∃ q, Hid ((splitL 32 s)[0]? = some q) := by
  cases h : splitL 32 s with
  | nil => exact absurd h (splitL_ne 32 s)
  | cons x t => exact ⟨x, rfl⟩
 have hqd : (splitL 32 s).headD [] = q := by
  have hq := hq.out
  cases h : splitL 32 s with
  | nil => exact absurd h (splitL_ne 32 s)
  | cons x t => rw [h] at hq; simpa using hq
 rw [hqd] at hw
 subst hw
 have w1n : decide (q = q) = true := by simp
 clear hl ht hm hqd
 go_enter Tryz.func115, Tryz.ntmps115
 go_wp2_with (first | (go_at_call 114; refine HSP.out.mono ?_; rintro e w1 ⟨b, rfl, hx1, hst⟩; have z0 := strs_cell hst hq.out; have HST := Lib.hid hst; clear hst) | (go_at_call 116; refine (HSU.out _ _).mono ?_; rintro e w9 ⟨rfl, rfl⟩))
 have HX1 := Lib.hid hx1
 clear z0 hx1
 go_loopw [8, 31] (fun ov i wr => ∃ j : Nat, j ≤ M ∧ i = .int .i64 j ∧ wr.ownsRow w9.heap.size 3 1 ov j (((toldN s).take j).map (.int .i64)) ∧ Ext w9 wr ∧ Hid (∀ x, x ∈ ((splitL 32 s).drop 1).take j → numOk x = true)) (fun _ i _ => M - (intOf i).toNat)
 case atStart => exact ⟨0, Nat.zero_le _, rfl, World.ownsRow_nil _ _ _ _, Ext.refl _, fun x hx => by simp at hx⟩
 case round =>
  obtain ⟨j, hj, rfl, hown, hx, hal⟩ := hrel
  by_cases hlt : j < M
  ·obtain ⟨l, hl⟩ : ∃ l, (splitL 32 s)[1 + j]? = some l := ⟨_, List.getElem?_eq_getElem (by rw [HL.out]; omega)⟩
   have z1 := hx.cell (strs_cell HST.out hl)
   have x1 : decide ((j : Int) < (M : Int)) = true := by simpa using hlt
   have x2 : (j : Int) < (M : Int) := by omega
   have x3 : (0 : Int) ≤ (j : Int) := by omega
   have hdl : ((splitL 32 s).drop 1)[j]? = some l := by rw [List.getElem?_drop]; exact hl
   have HXR := Lib.hid hx
   cases hok : numOk l with
   | true =>
    have HOK := Lib.hid hok
    have HAX : Hid (∀ x, x ∈ ((splitL 32 s).drop 1).take (j + 1) → numOk x = true) := fun x hx => by
     rw [List.take_add_one, hdl, List.mem_append] at hx
     rcases hx with hx | hx
     ·exact hal.out x hx
     ·rw [show x = l by simpa using hx]; exact hok
    have hns : (toldN s)[j]? = some (valT l) := by unfold toldN; rw [List.getElem?_map, hdl]; rfl
    have HTK : Hid ((toldN s).take (j + 1) = (toldN s).take j ++ [valT l]) := by unfold Hid; rw [List.take_add_one, hns]; rfl
    have hs1 : j + 1 ≤ maxLen ∧ (j + 1) * 8 ≤ 140737488355328 := by unfold maxLen; omega
    have HS1 := Lib.hid hs1
    have HO := Lib.hid hown
    clear hown hs1 hns hok hx hdl hl
    go_wp2_with (first
     | (go_at_call 149; refine (HNY.out _ _ (HX1.out.trans HXR.out) HOK.out).mono ?_; rintro e w3 ⟨rfl, hx3⟩; have hy3 := HXR.out.trans hx3; have hz3 := hy3.size)
     | (at_builtin; refine wpList_push_at E_ints rfl _ _ rfl w9.heap.size rfl (owns_ext HO.out hx3) rfl rfl rfl (by simp [Value.oneCell']) ?_ HS1.out.1 HS1.out.2 hz3; intro g cap w4 hown4 hext4 hg4 hloc4; have hx4 := hext4 _ hy3 (Nat.le_refl _); have HO4 := Lib.hid hown4; clear hown4 hext4 hg4 hloc4))
    refine ⟨⟨j + 1, by omega, by go_num, by rw [HTK.out, List.map_append]; exact HO4.out, hx4, HAX.out⟩, by simp [intOf]; omega⟩
   | false =>
    have HOK := Lib.hid hok
    have HNO : Hid (¬ ∀ x, x ∈ (splitL 32 s).drop 1 → numOk x = true) := fun h => by have := h l (List.mem_of_getElem? hdl); rw [hok] at this; cases this
    clear hok hown hx hdl hl
    go_wp2_with (go_at_call 149; refine (HNN.out _ _ (HX1.out.trans HXR.out) HOK.out).mono ?_; rintro e w3 ⟨why, rfl, hx3⟩)
    exact ⟨rfl, .inr ⟨HNO.out, why, rfl, (HX1.out.trans HXR.out).trans hx3⟩⟩
  ·have hje : j = M := by omega
   have HF : Hid (wr.ownsRow w.heap.size 3 1 u8 (toldN s).length ((toldN s).map (.int .i64))) := by
    have htl := HTLD.out
    unfold Hid
    rw [htl, ← hje]
    have := owns_down hown HX1.out.size
    rwa [List.take_of_length_le (by omega)] at this
   have HAX : Hid (∀ x, x ∈ (splitL 32 s).drop 1 → numOk x = true) := fun x hx => hal.out x (by rw [List.take_of_length_le (by rw [List.length_drop, HL.out]; omega)]; exact hx)
   have HXR := Lib.hid hx
   have x1 : decide ((j : Int) < (M : Int)) = false := by simpa using hlt
   clear hje hown hx
   go_wp2
   go_ret
   exact .inl ⟨HAX.out, _, rfl, HX1.out.trans HXR.out, HF.out⟩
theorem told_ok (s word : List UInt8) (M : Nat) (w : World) (ht : TabOk w) (hm : MaxOk w) (hs : s.length ≤ 1000) (hM : 2 ≤ M ∧ M ≤ 3000) (h : toldOk word M s = true) : Calls Tryz.prog 115 #[strV s, strV word, .int .i64 M] w fun e w' => ∃ v1, e = .returned v1 ∧ Ext w w' ∧ w'.ownsRow w.heap.size 3 1 v1 (toldN s).length ((toldN s).map (.int .i64)) := by
 unfold toldOk at h
 simp only [Bool.and_eq_true, decide_eq_true_eq, List.all_eq_true] at h
 refine (told_go s word M w ht hm hs hM h.1.1 h.1.2).mono fun e w' hp => ?_
 rcases hp with ⟨_, hp⟩ | ⟨hn, _⟩
 ·exact hp
 ·exact absurd h.2 hn
theorem told_no (s word : List UInt8) (M : Nat) (w : World) (ht : TabOk w) (hm : MaxOk w) (hs : s.length ≤ 1000) (hM : 2 ≤ M ∧ M ≤ 3000) (h : toldOk word M s = false) : Calls Tryz.prog 115 #[strV s, strV word, .int .i64 M] w (StrangeP w) := by
 by_cases h1 : (splitL 32 s).length = M + 1
 ·by_cases h2 : (splitL 32 s).headD [] = word
  ·refine (told_go s word M w ht hm hs hM h1 h2).mono fun e w' hp => ?_
   rcases hp with ⟨h3, _⟩ | ⟨_, hp⟩
   ·unfold toldOk at h
    rw [decide_eq_true h1, decide_eq_true h2, List.all_eq_true.2 h3] at h
    cases h
   ·exact hp
  ·exact told_word s word M w hm hs hM h1 h2
 ·exact told_len s word M w hm hs hM h1
end Go.Proofs.YtdmdabhdcpjkiaaGreatDoor
