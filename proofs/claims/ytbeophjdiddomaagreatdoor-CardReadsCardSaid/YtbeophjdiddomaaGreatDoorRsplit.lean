/- The reference's split, told. -/
import Derived.Test.YtbeophjdiddomaaGreatDoorRdec
import Derived.Test.YtbeophjdiddomaaGreatDoorRtextp
import Derived.Test.YtbeophjdiddomaaGreatDoorTold
namespace Go.Proofs.YtbeophjdiddomaaGreatDoor
open Go.RowKit

theorem sub_str (s : List UInt8) (f i : Nat) : Value.string (({ data := s.toArray } : ByteArray).extract f i) = strV ((s.take i).drop f) := by
  congr 1
  apply ByteArray.ext
  rw [ByteArray.data_extract, List.extract_toArray, List.extract_eq_take_drop, List.drop_take]
set_option maxRecDepth 100000 in
set_option maxHeartbeats 8000000 in
theorem rsplit_any (s : List UInt8) (c : UInt8) (w : World) (hs : s.length ≤ 1000) : Calls Tryz.prog 55 #[strV s, .int .u8 (c.toNat : Int)] w fun e w' => ∃ v, e = .returned v ∧ Ext w w' ∧ w'.ownsRow w.heap.size 9 1 v (splitL c s).length ((splitL c s).map strV) := by
  have hmix : Tryz.prog.follows .mixedOrders = true := by kernel_rfl
  have hsz := size_str s
  go_enter Tryz.func55, Tryz.ntmps55
  go_wp2
  go_loopw [5, 6, 7] (fun ov fv iv wr => ∃ (i f : Nat) (out : List (List UInt8)), i ≤ s.length ∧ f ≤ i ∧ out.length ≤ i ∧ iv = .int .i64 i ∧ fv = .int .i64 f ∧ Hid (SplitAt c s i out f) ∧ wr.ownsRow w.heap.size 9 1 ov out.length (out.map strV) ∧ Ext w wr) (fun _ _ iv _ => s.length - (intOf iv).toNat)
  case atStart => exact ⟨0, 0, [], Nat.zero_le _, Nat.le_refl _, Nat.le_refl _, rfl, rfl, splitAt_zero c s, World.ownsRow_nil _ _ _ _, Ext.refl _⟩
  case round =>
    obtain ⟨i, f, out, hi, hf, ho, rfl, rfl, hsp, hown, hx⟩ := hrel
    have hz := hx.size
    have HO := Lib.hid hown
    have HXR := Lib.hid hx
    have hs1 : out.length + 1 ≤ maxLen ∧ (out.length + 1) * 16 ≤ 140737488355328 := by unfold maxLen; omega
    have HS1 := Lib.hid hs1
    clear hown hs1
    by_cases hlt : i < s.length
    · obtain ⟨b, hb⟩ : ∃ b, Hid (s[i]? = some b) := ⟨_, List.getElem?_eq_getElem hlt⟩
      have x1 : decide ((i : Int) < (s.length : Int)) = true := by simpa using hlt
      have hat := str_at hb.out (by rw [hsz]; exact hlt)
      by_cases hbc : b = c
      · subst hbc
        have HN := Lib.hid (splitAt_hit hsp.out hb.out)
        have HE := Lib.hid (sub_str s f i)
        have hx9 : (f : Int) ≤ (i : Int) := by omega
        have hx8 : (i : Int) ≤ (s.length : Int) := by omega
        go_wp2_with (at_builtin; refine wpList_push E_strs rfl _ _ rfl w.heap.size rfl HO.out rfl rfl (by simp [Value.oneCell']) ?_ HS1.out.1 HS1.out.2 hz; intro g cap w5 hown' hext hgr; have hx5 := hext _ HXR.out (Nat.le_refl _); clear hext hgr)
        rw [HE.out] at hown'
        refine ⟨⟨i + 1, i + 1, out ++ [(s.take i).drop f], by omega, Nat.le_refl _, by simp; omega, by go_num, by go_num, HN.out, ?_, hx5⟩, by simp [intOf]; omega⟩
        rw [List.length_append, List.length_singleton, List.map_append]
        exact hown'
      · have HN := Lib.hid (splitAt_miss hsp.out hb.out hbc)
        have hbn : ¬ (b.toNat : Int) = (c.toNat : Int) := fun e => hbc (UInt8.toNat_inj.1 (by omega))
        have t1 : ((b.toNat : Int) == (c.toNat : Int)) = false := by simpa using hbn
        go_wp2
        exact ⟨⟨i + 1, f, out, by omega, by omega, by omega, by go_num, rfl, HN.out, HO.out, HXR.out⟩, by simp [intOf]; omega⟩
    · have hie : i = s.length := by omega
      subst hie
      have x1 : decide ((s.length : Int) < (s.length : Int)) = false := by simp
      have HN := Lib.hid (splitAt_end hsp.out)
      have HE := Lib.hid (sub_str s f s.length)
      have HTS : Hid ((s.take s.length).drop f = s.drop f) := by unfold Hid; rw [List.take_of_length_le (Nat.le_refl _)]
      have hx9 : (f : Int) ≤ (s.length : Int) := by omega
      go_wp2_with (at_builtin; refine wpList_push E_strs rfl _ _ rfl w.heap.size rfl HO.out rfl rfl (by simp [Value.oneCell']) ?_ HS1.out.1 HS1.out.2 hz; intro g cap w5 hown' hext hgr; have hx5 := hext _ HXR.out (Nat.le_refl _); clear hext hgr)
      rw [HE.out, HTS.out] at hown'
      have hl : (splitL c s).length = out.length + 1 := by rw [HN.out, List.length_append, List.length_singleton]
      have hm : (splitL c s).map strV = out.map strV ++ [strV (s.drop f)] := by rw [HN.out, List.map_append]; rfl
      have HF : Hid (w5.ownsRow w.heap.size 9 1 (.slice (some ⟨g, 0, none⟩) (out.length + 1) cap) (splitL c s).length ((splitL c s).map strV)) := by
        unfold Hid; rw [hl, hm]; exact hown'
      clear hl hm hown'
      go_ret
      exact ⟨_, rfl, hx5, HF.out⟩
/-- What the reference's told answers. -/
def RToldPost (s word : List UInt8) (M : Nat) (w : World) (e : Ending) (w' : World) : Prop := ∃ v, e = .returned v ∧ Ext w w' ∧ (toldOk word M s = true → w'.ownsRow w.heap.size 3 1 v M ((toldN s).map (.int .i64))) ∧ (toldOk word M s = false → v = .slice none 0 0)
set_option maxRecDepth 100000 in
set_option maxHeartbeats 8000000 in
theorem rtold_no (s word : List UInt8) (M : Nat) (w : World) (hs : s.length ≤ 1000) (hM : 2 ≤ M ∧ M ≤ 6) (h : ¬ ((splitL 32 s).length = M + 1 ∧ (splitL 32 s).headD [] = word)) : Calls Tryz.prog 56 #[strV s, strV word, .int .i64 M] w (RToldPost s word M w) := by
  have hmix : Tryz.prog.follows .mixedOrders = true := by kernel_rfl
  have HSP := Lib.hid (rsplit_any s 32 w hs)
  have HF : Hid (∀ w', Ext w w' → RToldPost s word M w (.returned (.slice none 0 0)) w') := fun w' hx => by
    have hb : toldOk word M s = false := by
      unfold toldOk
      by_cases h1 : (splitL 32 s).length = M + 1
      · have h2 : ¬ (splitL 32 s).headD [] = word := fun e => h ⟨h1, e⟩
        rw [decide_eq_false h2]; simp
      · rw [decide_eq_false h1]; simp
    exact ⟨_, rfl, hx, fun h1 => (by rw [hb] at h1; cases h1), fun _ => rfl⟩
  obtain ⟨M1, M2⟩ := hM
  have E1 : IntKind.i64.wrap ((M : Int) + 1) = (M : Int) + 1 := IntWalk.i64_in _ (by omega)
  have hne := splitL_ne 32 s
  have hpos : 0 < (splitL 32 s).length := List.length_pos_iff.2 hne
  by_cases h1 : (splitL 32 s).length = M + 1
  · have h2 : ¬ (splitL 32 s).headD [] = word := fun e => h ⟨h1, e⟩
    obtain ⟨q, hq⟩ : ∃ q, (splitL 32 s)[0]? = some q := ⟨_, List.getElem?_eq_getElem hpos⟩
    have hqd : (splitL 32 s).headD [] = q := by
      cases h : splitL 32 s with
      | nil => exact absurd h hne
      | cons x t => rw [h] at hq; simpa using hq
    rw [hqd] at h2
    have t1 : ((M : Int) + 1 != (M : Int) + 1) = false := by simp
    have q1 : (q != word) = true := by simpa using h2
    have q2 : decide (q = word) = false := by simpa using h2
    have q3 : (q == word) = false := by simpa using h2
    have HQ := Lib.hid hq
    have b0 : (0 : Int) < (M : Int) + 1 := by omega
    have b0n : 0 < M + 1 := by omega
    rw [h1] at HSP
    clear h h1 h2 hqd hq hne hpos
    go_enter Tryz.func56, Tryz.ntmps56
    go_wp2_with (go_at_call 55; refine HSP.out.mono ?_; rintro e w1 ⟨v, rfl, hx1, hown⟩; obtain ⟨g, cap, rfl⟩ := owns_succ hown; have z0 := hown.cellAt 0 (by simp); rw [List.getElem?_map, HQ.out] at z0; simp only [Option.map_some] at z0)
    go_ret
    exact HF.out _ hx1
  · have t1 : (((splitL 32 s).length : Int) != (M : Int) + 1) = true := by rw [bne_iff_ne]; omega
    obtain ⟨L, hL⟩ : ∃ L, (splitL 32 s).length = L + 1 := ⟨(splitL 32 s).length - 1, by omega⟩
    rw [hL] at HSP t1 h1
    have t2 : ((L : Int) + 1 != (M : Int) + 1) = true := by rw [bne_iff_ne]; omega
    clear h hne hpos
    go_enter Tryz.func56, Tryz.ntmps56
    go_wp2_with (go_at_call 55; refine HSP.out.mono ?_; rintro e w1 ⟨v, rfl, hx1, hown⟩; obtain ⟨g, cap, rfl⟩ := owns_succ hown)
    go_ret
    exact HF.out _ hx1
set_option maxRecDepth 100000 in
set_option maxHeartbeats 8000000 in
theorem rtold_go (s word : List UInt8) (M : Nat) (w : World) (hs : s.length ≤ 1000) (hM : 2 ≤ M ∧ M ≤ 6) (hl : (splitL 32 s).length = M + 1) (hw : (splitL 32 s).headD [] = word) : Calls Tryz.prog 56 #[strV s, strV word, .int .i64 M] w (RToldPost s word M w) := by
  have hmix : Tryz.prog.follows .mixedOrders = true := by kernel_rfl
  have HSP := Lib.hid (rsplit_any s 32 w hs)
  have HNO : Hid (∀ j, ¬ numOk ((splitL 32 s).getD (1 + j) []) = true → j < M → ∀ w', Ext w w' → RToldPost s word M w (.returned (.slice none 0 0)) w') := fun j hj hjM w' hx => by
    have hb : toldOk word M s = false := by
      cases hb : toldOk word M s with
      | false => rfl
      | true =>
        unfold toldOk at hb
        simp only [Bool.and_eq_true, decide_eq_true_eq, List.all_eq_true] at hb
        refine absurd (hb.2 _ ?_) hj
        rw [List.getD_eq_getElem?_getD, List.getElem?_eq_getElem (by omega), Option.getD_some]
        refine List.mem_of_getElem? (i := j) ?_
        rw [List.getElem?_drop, List.getElem?_eq_getElem (by omega)]
    exact ⟨_, rfl, hx, fun h1 => (by rw [hb] at h1; cases h1), fun _ => rfl⟩
  have HYES : Hid ((∀ j, j < M → numOk ((splitL 32 s).getD (1 + j) []) = true) → toldOk word M s = true) := fun h => by
    unfold toldOk
    simp only [Bool.and_eq_true, decide_eq_true_eq, List.all_eq_true]
    refine ⟨⟨hl, hw⟩, fun x hx => ?_⟩
    obtain ⟨j, hj⟩ := List.getElem?_of_mem hx
    rw [List.getElem?_drop] at hj
    have hlt := (List.getElem?_eq_some_iff.1 hj).1
    have := h j (by omega)
    rwa [List.getD_eq_getElem?_getD, hj, Option.getD_some] at this
  obtain ⟨M1, M2⟩ := hM
  have E1 : IntKind.i64.wrap ((M : Int) + 1) = (M : Int) + 1 := IntWalk.i64_in _ (by omega)
  have hne := splitL_ne 32 s
  have hpos : 0 < (splitL 32 s).length := List.length_pos_iff.2 hne
  obtain ⟨q, hq⟩ : ∃ q, (splitL 32 s)[0]? = some q := ⟨_, List.getElem?_eq_getElem hpos⟩
  have hqd : (splitL 32 s).headD [] = q := by
    cases h : splitL 32 s with
    | nil => exact absurd h hne
    | cons x t => rw [h] at hq; simpa using hq
  have hqw : q = word := hqd.symm.trans hw
  subst hqw
  have t1 : ((M : Int) + 1 != (M : Int) + 1) = false := by simp
  have q1 : (q != q) = false := by simp
  have HQ := Lib.hid hq
  have b0 : (0 : Int) < (M : Int) + 1 := by omega
  have b0n : 0 < M + 1 := by omega
  have HL := Lib.hid hl
  rw [hl] at HSP
  clear hl hw hqd hq hne hpos
  go_enter Tryz.func56, Tryz.ntmps56
  go_wp2_with (go_at_call 55; refine HSP.out.mono ?_; rintro e w1 ⟨v, rfl, hx1, hown⟩; obtain ⟨g, cap, rfl⟩ := owns_succ hown; have z0 := hown.cellAt 0 (by simp); rw [List.getElem?_map, HQ.out] at z0; simp only [Option.map_some] at z0)
  have HST : Hid (∀ j l, (splitL 32 s)[j]? = some l → w1.cell? ⟨g, j, none⟩ = some (strV l)) := fun j l hj => by
    have := hown.cellAt j (by have := (List.getElem?_eq_some_iff.1 hj).1; have := HL.out; omega)
    rw [this, List.getElem?_map, hj]; rfl
  have hz1 := hx1.size
  have HX1 := Lib.hid hx1
  clear z0 hown hx1
  go_loopw [8, 9] (fun ov iv wr => ∃ j : Nat, j ≤ M ∧ iv = .int .i64 ((j : Int) + 1) ∧ Hid (∀ k, k < j → numOk ((splitL 32 s).getD (1 + k) []) = true) ∧ wr.ownsRow w1.heap.size 3 1 ov j (((toldN s).take j).map (.int .i64)) ∧ Ext w1 wr) (fun _ iv _ => M + 1 - (intOf iv).toNat)
  case atStart => exact ⟨0, Nat.zero_le _, rfl, (fun k hk => by omega), World.ownsRow_nil _ _ _ _, Ext.refl _⟩
  case round =>
    obtain ⟨j, hj, rfl, hall, hown, hx⟩ := hrel
    by_cases hlt : j < M
    · obtain ⟨l, hl⟩ : ∃ l, Hid ((splitL 32 s)[j + 1]? = some l) := ⟨_, List.getElem?_eq_getElem (by rw [HL.out]; omega)⟩
      have z1 := hx.cell (HST.out (j + 1) l hl.out)
      have x1 : decide ((j : Int) + 1 < (M : Int) + 1) = true := by simp; omega
      have x1' : decide ((j : Int) < (M : Int)) = true := by simp; omega
      have x2 : (j : Int) + 1 < (M : Int) + 1 := by omega
      have x3 : (0 : Int) ≤ (j : Int) + 1 := by omega
      have x4 : ((j : Int) + 1).toNat = j + 1 := by omega
      have x5 : IntKind.i64.wrap ((j : Int) + 1 + 1) = (j : Int) + 1 + 1 := IntWalk.i64_in _ (by omega)
      have hgd : (splitL 32 s).getD (1 + j) [] = l := by rw [Nat.add_comm, List.getD_eq_getElem?_getD, hl.out]; rfl
      have HN := Lib.hid (fun w1 => rnumber_any l w1)
      have HO := Lib.hid hown
      have HXR := Lib.hid hx
      clear hown
      cases hok : numOk l with
      | false =>
        have hnr : numR l = -1 := by unfold numR; rw [hok]; rfl
        have HBAD := Lib.hid (HNO.out j (by rw [hgd, hok]; decide) hlt)
        rw [hnr] at HN
        clear hgd hok hnr
        go_wp2_with (go_at_call 91; refine (HN.out _).mono ?_; rintro e w3 ⟨rfl, hx3⟩)
        go_ret
        exact HBAD.out _ ((HX1.out.trans HXR.out).trans hx3)
      | true =>
        have hnr : numR l = valT l := by unfold numR; rw [hok]; rfl
        have hv0 := (num_ok hok).1
        have d0 : decide (valT l < 0) = false := by simp; omega
        have HALL : Hid (∀ k, k < j + 1 → numOk ((splitL 32 s).getD (1 + k) []) = true) := fun k hk => by
          by_cases e : k = j
          · subst e; rw [hgd]; exact hok
          · exact hall.out k (by omega)
        have hns : (toldN s)[j]? = some (valT l) := by
          unfold toldN; rw [List.getElem?_map, List.getElem?_drop, Nat.add_comm, hl.out]; rfl
        have HTK : Hid ((toldN s).take (j + 1) = (toldN s).take j ++ [valT l]) := by unfold Hid; rw [List.take_add_one, hns]; rfl
        have hs1 : j + 1 ≤ maxLen ∧ (j + 1) * 8 ≤ 140737488355328 := by unfold maxLen; omega
        have HS1 := Lib.hid hs1
        rw [hnr] at HN
        clear hgd hok hnr hns hs1 hall
        go_wp2_with (first
          | (go_at_call 91; refine (HN.out _).mono ?_; rintro e w3 ⟨rfl, hx3⟩; have hy3 := HXR.out.trans hx3; have hz3 := hy3.size)
          | (at_builtin; refine wpList_push_at E_ints rfl _ _ rfl w1.heap.size rfl (owns_ext HO.out hx3) rfl rfl rfl (by simp [Value.oneCell']) ?_ HS1.out.1 HS1.out.2 hz3; intro g4 cap4 w4 hown4 hext4 hg4 hloc4; have hx4 := hext4 _ hy3 (Nat.le_refl _); have HO4 := Lib.hid hown4; clear hown4 hext4 hg4 hloc4))
        refine ⟨⟨j + 1, by omega, by go_num, HALL.out, by rw [HTK.out, List.map_append]; exact HO4.out, hx4⟩, by simp [intOf]; omega⟩
    · have hje : j = M := by omega
      have HF : Hid (RToldPost s q M w (.returned u8) wr) := by
        have hyes := HYES.out (fun k hk => hall.out k (by omega))
        have htl := (told_line hyes).1
        refine ⟨_, rfl, HX1.out.trans hx, fun _ => ?_, fun h1 => (by rw [hyes] at h1; cases h1)⟩
        have := owns_down hown hz1
        rw [hje, List.take_of_length_le (by omega)] at this
        exact this
      have x1 : decide ((j : Int) + 1 < (M : Int) + 1) = false := by simp; omega
      have x1' : decide ((j : Int) < (M : Int)) = false := by simp; omega
      clear hje hown hall
      go_wp2
      go_ret
      exact HF.out
theorem rtold_any (s word : List UInt8) (M : Nat) (w : World) (hs : s.length ≤ 1000) (hM : 2 ≤ M ∧ M ≤ 6) : Calls Tryz.prog 56 #[strV s, strV word, .int .i64 M] w (RToldPost s word M w) := by
  by_cases h : (splitL 32 s).length = M + 1 ∧ (splitL 32 s).headD [] = word
  · exact rtold_go s word M w hs hM h.1 h.2
  · exact rtold_no s word M w hs hM h
end Go.Proofs.YtbeophjdiddomaaGreatDoor
