/- The reference's split, said. -/
import Derived.Test.YtdmdabhdcpjkiaaGreatDoorRprint
import Derived.Test.YtdmdabhdcpjkiaaGreatDoorReads
import Derived.Test.YtdmdabhdcpjkiaaGreatDoorTextp
import Derived.Test.YtdmdabhdcpjkiaaGreatDoorTold
namespace Go.Proofs.YtdmdabhdcpjkiaaGreatDoor
open Go.RowKit
theorem sub_str (s : List UInt8) (f i : Nat) : Value.string (({ data := s.toArray } : ByteArray).extract f i) = strV ((s.take i).drop f) := by
 congr 1
 apply ByteArray.ext
 rw [ByteArray.data_extract, List.extract_toArray, List.extract_eq_take_drop, List.drop_take]
set_option maxRecDepth 100000 in
set_option maxHeartbeats 8000000 in
theorem rsplit_any (s : List UInt8) (c : UInt8) (w : World) (hs : s.length ≤ 1000) : Calls Tryz.prog 67 #[strV s, .int .u8 (c.toNat : Int)] w fun e w' => ∃ v, e = .returned v ∧ Ext w w' ∧ w'.ownsRow w.heap.size 9 1 v (splitL c s).length ((splitL c s).map strV) := by
 have hmix : Tryz.prog.follows .mixedOrders = true := by kernel_rfl
 have hsz := size_str s
 go_enter Tryz.func67, Tryz.ntmps67
 go_wp2
 go_loopw [5, 6, 7] (fun ov fv iv wr => ∃ (i f : Nat) (out : List (List UInt8)), i ≤ s.length ∧ f ≤ i ∧ out.length ≤ i ∧ iv = .int .i64 i ∧ fv = .int .i64 f ∧ Hid (SplitAt c s i out f) ∧ wr.ownsRow w.heap.size 9 1 ov out.length (out.map strV) ∧ Ext w wr) (fun _ _ iv _ => s.length - (intOf iv).toNat)
 case atStart => exact ⟨0, 0, [], Nat.zero_le _, Nat.le_refl _, Nat.le_refl _, rfl, rfl, splitAt_zero c s, World.ownsRow_nil _ _ _ _, Ext.refl _⟩
 case round =>
  obtain ⟨i, f, out, hi, hf, ho, rfl, rfl, hsp, hown, hx⟩ := hrel
  have hz := hx.size
  have HO := Lib.hid hown
  have HXR := Lib.hid hx
  have hs1 : out.length + 1 ≤ maxLen ∧ (out.length + 1) * 16 ≤ 140737488355328 := by unfold maxLen; omega
  have HS1 := Lib.hid hs1
  clear hown hs1
  by_cases hlt : i < s.length
  ·obtain ⟨b, hb⟩ : ∃ b, Hid (s[i]? = some b) := ⟨_, List.getElem?_eq_getElem hlt⟩
   have x1 : decide ((i : Int) < (s.length : Int)) = true := by simpa using hlt
   have hat := str_at hb.out (by rw [hsz]; exact hlt)
   by_cases hbc : b = c
   ·subst hbc
    have HN := Lib.hid (splitAt_hit hsp.out hb.out)
    have HE := Lib.hid (sub_str s f i)
    have hx9 : (f : Int) ≤ (i : Int) := by omega
    have hx8 : (i : Int) ≤ (s.length : Int) := by omega
    go_wp2_with (at_builtin; refine wpList_push E_strs rfl _ _ rfl w.heap.size rfl HO.out rfl rfl (by simp [Value.oneCell']) ?_ HS1.out.1 HS1.out.2 hz; intro g cap w5 hown' hext hgr; have hx5 := hext _ HXR.out (Nat.le_refl _); clear hext hgr)
    rw [HE.out] at hown'
    refine ⟨⟨i + 1, i + 1, out ++ [(s.take i).drop f], by omega, Nat.le_refl _, by simp; omega, by go_num, by go_num, HN.out, ?_, hx5⟩, by simp [intOf]; omega⟩
    rw [List.length_append, List.length_singleton, List.map_append]
    exact hown'
   ·have HN := Lib.hid (splitAt_miss hsp.out hb.out hbc)
    have hbn : ¬ (b.toNat : Int) = (c.toNat : Int) := fun e => hbc (UInt8.toNat_inj.1 (by omega))
    have t1 : ((b.toNat : Int) == (c.toNat : Int)) = false := by simpa using hbn
    go_wp2
    exact ⟨⟨i + 1, f, out, by omega, by omega, by omega, by go_num, rfl, HN.out, HO.out, HXR.out⟩, by simp [intOf]; omega⟩
  ·have hie : i = s.length := by omega
   subst hie
   have x1 : decide ((s.length : Int) < (s.length : Int)) = false := by simp
   have HN := Lib.hid (splitAt_end hsp.out)
   have HE := Lib.hid (sub_str s f s.length)
   have HTS : Hid ((s.take s.length).drop f = s.drop f) := by unfold Hid; rw [List.take_of_length_le (Nat.le_refl _)]
   have hx9 : (f : Int) ≤ (s.length : Int) := by omega
   go_wp2_with (at_builtin; refine wpList_push E_strs rfl _ _ rfl w.heap.size rfl HO.out rfl rfl (by simp [Value.oneCell']) ?_ HS1.out.1 HS1.out.2 hz; intro g cap w5 hown' hext hgr; have hx5 := hext _ HXR.out (Nat.le_refl _); clear hext hgr)
   rw [HE.out, HTS.out] at hown'
   have hl : (splitL c s).length = out.length + 1 := by rw [HN.out, List.length_append, List.length_singleton]
   have hm : (splitL c s).map strV = out.map strV ++ [strV (s.drop f)] := by rw [HN.out, List.map_append]; rfl
   have HF : Hid (w5.ownsRow w.heap.size 9 1 (.slice (some ⟨g, 0, none⟩) (out.length + 1) cap) (splitL c s).length ((splitL c s).map strV)) := by
    unfold Hid; rw [hl, hm]; exact hown'
   clear hl hm hown'
   go_ret
   exact ⟨_, rfl, hx5, HF.out⟩
/-- What the reference's said answers. -/
def SaidPost (s word : List UInt8) (w : World) (e : Ending) (w' : World) : Prop := ∃ (v : Value) (bo : Bool) (ns : List Int), e = .returned (.tuple #[v, .bool bo]) ∧ Ext w w' ∧ w'.ownsRow w.heap.size 3 1 v ns.length (ns.map (.int .i64)) ∧ (∀ M, toldOk word M s = (bo && decide (ns.length = M))) ∧ (bo = true → ns = toldN s)
theorem said_bad {s word : List UInt8} {j : Nat} (h : ¬ numOk ((splitL 32 s).getD (1 + j) []) = true) (hj : j + 1 < (splitL 32 s).length) (w : World) : ∀ w', Ext w w' → SaidPost s word w (.returned (.tuple #[.slice none 0 0, .bool false])) w' := fun w' hx => by
 refine ⟨_, false, [], rfl, hx, World.ownsRow_nil _ _ _ _, fun M => ?_, fun h => by cases h⟩
 rw [Bool.false_and]
 cases hb : toldOk word M s with
 | false => rfl
 | true =>
  unfold toldOk at hb
  simp only [Bool.and_eq_true, decide_eq_true_eq, List.all_eq_true] at hb
  refine absurd (hb.2 _ ?_) h
  rw [List.getD_eq_getElem?_getD, List.getElem?_eq_getElem (by omega), Option.getD_some]
  refine List.mem_of_getElem? (i := j) ?_
  rw [List.getElem?_drop, List.getElem?_eq_getElem (by omega)]
theorem said_all {s word q : List UInt8} (hq : (splitL 32 s).headD [] = q) (hall : ∀ k, k + 1 < (splitL 32 s).length → numOk ((splitL 32 s).getD (1 + k) []) = true) : ∀ M, toldOk word M s = (decide (q = word) && decide ((toldN s).length = M)) := fun M => by
 have h3 : ((splitL 32 s).drop 1).all numOk = true := by
  rw [List.all_eq_true]
  intro x hx
  obtain ⟨j, hj⟩ := List.getElem?_of_mem hx
  rw [List.getElem?_drop] at hj
  have hlt := (List.getElem?_eq_some_iff.1 hj).1
  have := hall j (by omega)
  rwa [List.getD_eq_getElem?_getD, hj, Option.getD_some] at this
 have hl : (toldN s).length = (splitL 32 s).length - 1 := by unfold toldN; rw [List.length_map, List.length_drop]
 have hp : 0 < (splitL 32 s).length := List.length_pos_iff.2 (splitL_ne 32 s)
 unfold toldOk
 rw [h3, hq, hl, Bool.and_true, Bool.and_comm]
 congr 1
 exact decide_eq_decide.2 (by omega)
set_option maxRecDepth 100000 in
set_option maxHeartbeats 8000000 in
theorem rsaid_any (s word : List UInt8) (w : World) (hs : s.length ≤ 1000) : Calls Tryz.prog 68 #[strV s, strV word] w (SaidPost s word w) := by
 have HSP := Lib.hid (rsplit_any s 32 w hs)
 have hpos : 0 < (splitL 32 s).length := List.length_pos_iff.2 (splitL_ne 32 s)
 obtain ⟨M, hM⟩ : ∃ M, (splitL 32 s).length = M + 1 := ⟨(splitL 32 s).length - 1, by omega⟩
 have hM1 : M ≤ 1000 := by have := split_count 32 s; omega
 obtain ⟨q, hq⟩ : ∃ q, Hid ((splitL 32 s)[0]? = some q) := ⟨_, List.getElem?_eq_getElem hpos⟩
 have hqd : (splitL 32 s).headD [] = q := by
  have hq := hq.out
  cases h : splitL 32 s with
  | nil => exact absurd h (splitL_ne 32 s)
  | cons x t => rw [h] at hq; simpa using hq
 have HBAD := Lib.hid (fun j h hj => said_bad (s := s) (word := word) (j := j) h hj w)
 have HALL := Lib.hid (fun h => said_all (word := word) hqd h)
 have HTL : Hid ((toldN s).length = M) := by unfold Hid toldN; rw [List.length_map, List.length_drop]; omega
 have HL := Lib.hid hM
 rw [hM] at HSP
 clear hqd hM hpos
 go_enter Tryz.func68, Tryz.ntmps68
 go_wp2_with (go_at_call 67; refine HSP.out.mono ?_; rintro e w1 ⟨v, rfl, hx1, hown⟩; obtain ⟨g, cap, rfl⟩ := owns_succ hown; have z0 := hown.cellAt 0 (by simp); rw [List.getElem?_map, hq.out] at z0; simp only [Option.map_some] at z0)
 have HST : Hid (∀ j l, (splitL 32 s)[j]? = some l → w1.cell? ⟨g, j, none⟩ = some (strV l)) := fun j l hj => by
  have := hown.cellAt j (by have := (List.getElem?_eq_some_iff.1 hj).1; have := HL.out; omega)
  rw [this, List.getElem?_map, hj]; rfl
 have hz1 := hx1.size
 have HX1 := Lib.hid hx1
 have HZ0 := Lib.hid z0
 clear z0 hown hx1
 go_loopw [7, 8] (fun ov iv wr => ∃ j : Nat, j ≤ M ∧ iv = .int .i64 ((j : Int) + 1) ∧ Hid (∀ k, k < j → numOk ((splitL 32 s).getD (1 + k) []) = true) ∧ wr.ownsRow w1.heap.size 3 1 ov j (((toldN s).take j).map (.int .i64)) ∧ Ext w1 wr) (fun _ iv _ => M + 1 - (intOf iv).toNat)
 case atStart => exact ⟨0, Nat.zero_le _, rfl, (fun k hk => by omega), World.ownsRow_nil _ _ _ _, Ext.refl _⟩
 case round =>
  obtain ⟨j, hj, rfl, hall, hown, hx⟩ := hrel
  by_cases hlt : j < M
  ·obtain ⟨l, hl⟩ : ∃ l, Hid ((splitL 32 s)[j + 1]? = some l) := ⟨_, List.getElem?_eq_getElem (by rw [HL.out]; omega)⟩
   have z1 := hx.cell (HST.out (j + 1) l hl.out)
   have x1 : decide ((j : Int) + 1 < (M : Int) + 1) = true := by simp; omega
   have x1' : decide ((j : Int) < (M : Int)) = true := by simp; omega
   have x2 : (j : Int) + 1 < (M : Int) + 1 := by omega
   have x3 : (0 : Int) ≤ (j : Int) + 1 := by omega
   have x4 : ((j : Int) + 1).toNat = j + 1 := by omega
   have x5 : IntKind.i64.wrap ((j : Int) + 1 + 1) = (j : Int) + 1 + 1 := IntWalk.i64_in _ (by omega)
   have hgd : (splitL 32 s).getD (1 + j) [] = l := by rw [Nat.add_comm, List.getD_eq_getElem?_getD, hl.out]; rfl
   have HN := Lib.hid (fun w1 => rnumber_any l w1)
   have HO := Lib.hid hown
   have HXR := Lib.hid hx
   clear hown
   cases hok : numOk l with
   | false =>
    have hnr : numR l = -1 := by unfold numR; rw [hok]; rfl
    have HB1 := Lib.hid (HBAD.out j (by rw [hgd, hok]; decide) (by rw [HL.out]; omega))
    rw [hnr] at HN
    clear hgd hok hnr
    go_wp2_with (go_at_call 117; refine (HN.out _).mono ?_; rintro e w3 ⟨rfl, hx3⟩)
    go_ret2
    exact HB1.out _ ((HX1.out.trans HXR.out).trans hx3)
   | true =>
    have hnr : numR l = valT l := by unfold numR; rw [hok]; rfl
    have hv0 := (num_ok hok).1
    have d0 : decide (valT l < 0) = false := by simp; omega
    have HAL : Hid (∀ k, k < j + 1 → numOk ((splitL 32 s).getD (1 + k) []) = true) := fun k hk => by
     by_cases e : k = j
     ·subst e; rw [hgd]; exact hok
     ·exact hall.out k (by omega)
    have hns : (toldN s)[j]? = some (valT l) := by unfold toldN; rw [List.getElem?_map, List.getElem?_drop, Nat.add_comm, hl.out]; rfl
    have HTK : Hid ((toldN s).take (j + 1) = (toldN s).take j ++ [valT l]) := by unfold Hid; rw [List.take_add_one, hns]; rfl
    have HS1 := Lib.hid (show j + 1 ≤ maxLen ∧ (j + 1) * 8 ≤ 140737488355328 by unfold maxLen; omega)
    rw [hnr] at HN
    generalize valT l = vl at *
    clear hgd hok hnr hns
    go_wp2_with (first
     | (go_at_call 117; refine (HN.out _).mono ?_; rintro e w3 ⟨rfl, hx3⟩; have hy3 := HXR.out.trans hx3; have hz3 := hy3.size)
     | (at_builtin; refine wpList_push_at E_ints rfl _ _ rfl w1.heap.size rfl (owns_ext HO.out hx3) rfl rfl rfl (by simp [Value.oneCell']) ?_ HS1.out.1 HS1.out.2 hz3; intro g5 cap5 w5 hown5 hext5 hg5 hloc5; have hx5 := hext5 _ hy3 (Nat.le_refl _); have HO5 := Lib.hid hown5; clear hown5 hext5 hg5 hloc5))
    refine ⟨⟨j + 1, by omega, by go_num, HAL.out, by rw [HTK.out, List.map_append]; exact HO5.out, hx5⟩, by simp [intOf]; omega⟩
  ·have hje : j = M := by omega
   subst hje
   have x1 : decide ((j : Int) + 1 < (j : Int) + 1) = false := by simp
   have x1' : decide ((j : Int) < (j : Int)) = false := by simp
   have z0 := hx.cell HZ0.out
   have hAL := HALL.out (fun k hk => hall.out k (by rw [HL.out] at hk; omega))
   have HF : Hid (∀ (bo : Bool) (W : World), bo = decide (q = word) → Ext wr W → SaidPost s word w (.returned (.tuple #[u7, .bool bo])) W) := fun bo W hbo hW => by
    refine ⟨_, bo, toldN s, rfl, (HX1.out.trans hx).trans hW, ?_, fun M' => by rw [hbo]; exact hAL M', fun _ => rfl⟩
    have h := owns_ext (owns_down hown hz1) hW
    rw [List.take_of_length_le (by rw [HTL.out]; exact Nat.le_refl _)] at h
    rw [HTL.out]
    exact h
   have HZC : Hid (∀ W, Ext wr W → W.cell? ⟨g, 0, none⟩ = some (strV q)) := fun W hW => hW.cell z0
   clear hown hAL hall z0
   by_cases hqw : q = word
   ·have t1 : decide (q = word) = true := by simpa using hqw
    have t2 : (q == word) = true := by simpa using hqw
    have HG := Lib.hid (fun W => HF.out true W t1.symm)
    clear hqw HF
    go_upto_region 10 with fail
    refine region_reads (C := fun W => Ext wr W) (by kernel_rfl) (by kernel_rfl) ((Ext.refl wr).drew) ?_
    repeat (first | go_big_quiet_skip | (go_big_quiet_want; go_big_quiet_op; first | go_big_quiet_on | (refine ⟨_, fun W hW => rfl, ?_⟩; go_big_quiet_on)) | (go_big_quiet_want; refine ⟨?_, fun W hW => ?_, ?_⟩; rotate_left; (· (obtain z0 := HZC.out W hW); go_simp; (first | with_reducible rfl)); (try simp only [Act.put, yA, yB, yC]); go_big_quiet_on))
    refine wpQuiet_nil ?_
    intro wq hq
    go_wp2
    go_ret2
    exact HG.out _ hq
   ·have t1 : decide (q = word) = false := by simpa using hqw
    have t2 : (q == word) = false := by simpa using hqw
    have HG := Lib.hid (fun W => HF.out false W t1.symm)
    clear hqw HF
    go_upto_region 10 with fail
    refine region_reads (C := fun W => Ext wr W) (by kernel_rfl) (by kernel_rfl) ((Ext.refl wr).drew) ?_
    repeat (first | go_big_quiet_skip | (go_big_quiet_want; go_big_quiet_op; first | go_big_quiet_on | (refine ⟨_, fun W hW => rfl, ?_⟩; go_big_quiet_on)) | (go_big_quiet_want; refine ⟨?_, fun W hW => ?_, ?_⟩; rotate_left; (· (obtain z0 := HZC.out W hW); go_simp; (first | with_reducible rfl)); (try simp only [Act.put, yA, yB, yC]); go_big_quiet_on))
    refine wpQuiet_nil ?_
    intro wq hq
    go_wp2
    go_ret2
    exact HG.out _ hq
end Go.Proofs.YtdmdabhdcpjkiaaGreatDoor
