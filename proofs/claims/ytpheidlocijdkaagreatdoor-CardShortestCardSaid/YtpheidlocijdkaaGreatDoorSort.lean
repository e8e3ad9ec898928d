/- The law's sort: insertion into a row of its own. -/
import Derived.Test.YtpheidlocijdkaaGreatDoorBefore
import Derived.Test.YtpheidlocijdkaaGreatDoorHeldr
namespace Go.Proofs.YtpheidlocijdkaaGreatDoor
open Go.RowKit

def leI (a b : Int) : Bool := decide (a ≤ b)
def srt (l : List Int) : List Int := l.mergeSort leI
theorem leI_trans (a b c : Int) : leI a b = true → leI b c = true → leI a c = true := by simp only [leI, decide_eq_true_eq]; omega
theorem leI_total (a b : Int) : (leI a b || leI b a) = true := by simp only [leI, Bool.or_eq_true, decide_eq_true_eq]; omega
theorem srt_perm (l : List Int) : (srt l).Perm l := List.mergeSort_perm l leI
theorem srt_eq {l m : List Int} (hp : m.Perm l) (hs : m.Pairwise fun a b => leI a b = true) : m = srt l :=
  List.Perm.eq_of_pairwise (le := fun a b => leI a b = true) (fun a b _ _ h k => by simp only [leI, decide_eq_true_eq] at h k; omega) hs (List.pairwise_mergeSort leI_trans leI_total l) (hp.trans (srt_perm l).symm)
/-- The first k numbers are in order. -/
def sortedTo (l : List Int) (k : Nat) : Prop := ∀ a b, a < b → b < k → l.getD a 0 ≤ l.getD b 0
theorem sortedTo_all {l : List Int} (h : sortedTo l l.length) : l.Pairwise fun a b => leI a b = true := by
  rw [List.pairwise_iff_getElem]
  intro i j hi hj hij
  have := h i j hij hj
  rw [List.getD_eq_getElem?_getD, List.getD_eq_getElem?_getD, List.getElem?_eq_getElem hi, List.getElem?_eq_getElem hj] at this
  simpa [leI] using this
/-- The first k + 1 numbers are in order but for the m-th, which is no greater than those behind it. -/
def midTo (l : List Int) (k m : Nat) : Prop := (∀ a b, a < b → b ≤ k → a ≠ m → b ≠ m → l.getD a 0 ≤ l.getD b 0) ∧ ∀ b, m < b → b ≤ k → l.getD m 0 ≤ l.getD b 0
theorem mid_of_up {l : List Int} {k : Nat} (h : sortedTo l k) : midTo l k k := ⟨fun a b hab hb ha hb' => h a b hab (by omega), fun b h1 h2 => by omega⟩
theorem up_of_mid0 {l : List Int} {k : Nat} (h : midTo l k 0) : sortedTo l (k + 1) := fun a b hab hb => by
  by_cases ha : a = 0
  · subst ha; exact h.2 b hab (by omega)
  · exact h.1 a b hab (by omega) ha (by omega)
theorem up_of_mid {l : List Int} {k p : Nat} (h : midTo l k (p + 1)) (hp : l.getD p 0 ≤ l.getD (p + 1) 0) : sortedTo l (k + 1) := fun a b hab hb => by
  by_cases ha : a = p + 1
  · subst ha; exact h.2 b hab (by omega)
  · by_cases hb' : b = p + 1
    · subst hb'
      by_cases hap : a = p
      · subst hap; exact hp
      · have := h.1 a p (by omega) (by omega) (by omega) (by omega)
        omega
    · exact h.1 a b hab (by omega) ha hb'
theorem getD_set {l : List Int} {i j : Nat} {x : Int} (hi : i < l.length) : (l.set i x).getD j 0 = if i = j then x else l.getD j 0 := by
  rw [List.getD_eq_getElem?_getD, List.getElem?_set]
  by_cases e : i = j
  · subst e; simp [hi]
  · rw [if_neg e, if_neg e, List.getD_eq_getElem?_getD]
def swapL (l : List Int) (p : Nat) : List Int := (l.set (p + 1) (l.getD p 0)).set p (l.getD (p + 1) 0)
theorem swapL_len (l : List Int) (p : Nat) : (swapL l p).length = l.length := by simp [swapL]
theorem swapL_at {l : List Int} {p j : Nat} (hp : p + 1 < l.length) : (swapL l p).getD j 0 = if j = p then l.getD (p + 1) 0 else if j = p + 1 then l.getD p 0 else l.getD j 0 := by
  unfold swapL
  rw [getD_set (by rw [List.length_set]; omega), getD_set hp]
  by_cases h1 : j = p
  · rw [if_pos h1.symm, if_pos h1]
  · rw [if_neg (fun e => h1 e.symm), if_neg h1]
    by_cases h2 : j = p + 1
    · rw [if_pos h2.symm, if_pos h2]
    · rw [if_neg (fun e => h2 e.symm), if_neg h2]
theorem swapL_perm {l : List Int} {p : Nat} (hp : p + 1 < l.length) : (swapL l p).Perm l := by
  have h1 : l.getD p 0 = l[p] := by rw [List.getD_eq_getElem?_getD, List.getElem?_eq_getElem (by omega)]; rfl
  have h2 : l.getD (p + 1) 0 = l[p + 1] := by rw [List.getD_eq_getElem?_getD, List.getElem?_eq_getElem hp]; rfl
  unfold swapL
  rw [h1, h2]
  exact List.set_set_perm hp (by omega)
theorem mid_swap {l : List Int} {k p : Nat} (hp : p + 1 < l.length) (_hk : p + 1 ≤ k) (h : midTo l k (p + 1)) (hlt : l.getD (p + 1) 0 < l.getD p 0) : midTo (swapL l p) k p := by
  refine ⟨fun a b hab hb ha hb' => ?_, fun b h1 h2 => ?_⟩
  · rw [swapL_at hp, swapL_at hp, if_neg ha, if_neg hb']
    by_cases e1 : a = p + 1
    · rw [if_pos e1, if_neg (by omega)]
      exact h.1 p b (by omega) hb (by omega) (by omega)
    · rw [if_neg e1]
      by_cases e2 : b = p + 1
      · rw [if_pos e2]
        exact h.1 a p (by omega) (by omega) (by omega) (by omega)
      · rw [if_neg e2]
        exact h.1 a b hab hb e1 e2
  · rw [swapL_at hp, swapL_at hp, if_pos rfl, if_neg (by omega)]
    by_cases e2 : b = p + 1
    · rw [if_pos e2]; omega
    · rw [if_neg e2]
      exact h.2 b (by omega) h2
theorem swap_map {l : List Int} {p : Nat} : ((l.map (Value.int .i64)).set (p + 1) (.int .i64 (l.getD p 0))).set p (.int .i64 (l.getD (p + 1) 0)) = (swapL l p).map (.int .i64) := by
  unfold swapL; rw [List.map_set, List.map_set]
set_option maxRecDepth 100000 in
set_option maxHeartbeats 4000000 in
theorem sort_some (hv : Value) (l : List Int) (w : World) (hl : IntsAt w hv l) (hlen : l.length ≤ 1000) (h0 : 0 < l.length) :
    Calls Tryz.prog 28 #[hv] w fun e w' => ∃ v1, e = .returned v1 ∧ Ext w w' ∧ IntsAt w' v1 (srt l) := by
  have HV := Lib.hid (show RowAt w hv l.length (l.map (.int .i64)) from hl)
  obtain ⟨a, c, rfl, h1, h2, _⟩ := hl.open
  have hsz : 0 + l.length ≤ maxLen ∧ (0 + l.length) * 8 ≤ 140737488355328 := by unfold maxLen; omega
  have HSZ := Lib.hid hsz
  have hmix : Tryz.prog.follows .mixedOrders = true := by kernel_rfl
  clear hl hsz
  go_enter Tryz.func28, Tryz.ntmps28
  go_wp2_with (at_builtin; refine wpList_append_row E_ints rfl _ _ rfl w.heap.size rfl (World.ownsRow_nil _ _ _ _) rfl HV.out (by simp) (ints_one _) ?_ HSZ.out.1 HSZ.out.2 (Nat.le_refl _); intro v8 w8 hown8 hgr8 _; have hx8 : Ext w w8 := (Ext.refl _).grown hgr8 (fun g hg => by cases hg); rw [Nat.zero_add, List.nil_append] at hown8; have hform : ∃ g cap, v8 = .slice (some ⟨g, 0, none⟩) l.length cap := (by obtain ⟨m, hm⟩ : ∃ m, l.length = m + 1 := ⟨l.length - 1, by omega⟩; rw [hm] at hown8 ⊢; exact owns_succ hown8); obtain ⟨g, cap, hv8⟩ := hform; subst hv8; have HO := Lib.hid hown8; clear hown8 hgr8)
  have hgw : w.heap.size ≤ g := (World.ownsRow.lt HO.out g rfl).1
  go_loopw [4] (fun i wr => ∃ (k : Nat) (X : List Int), k ≤ l.length ∧ i = .int .i64 k ∧ wr.ownsRow w.heap.size 3 1 (.slice (some ⟨g, 0, none⟩) l.length cap) l.length (X.map (.int .i64)) ∧ Hid (X.Perm l ∧ sortedTo X k) ∧ Ext w wr) (fun i _ => l.length - (intOf i).toNat)
  case atStart => exact ⟨0, l, Nat.zero_le _, rfl, HO.out, ⟨List.Perm.refl _, fun a b _ h => by omega⟩, hx8⟩
  case round =>
    clear HO
    obtain ⟨k, X, hk, rfl, hown, hX, hx⟩ := hrel
    by_cases hlt : k < l.length
    · have x1 : decide ((k : Int) < (l.length : Int)) = true := by simpa using hlt
      have HO := Lib.hid hown
      clear hown
      go_wp2
      clear x1
      obtain ⟨wo, rfl⟩ : ∃ wo : World, wo = wr := ⟨_, rfl⟩
      go_loopw [5] (fun j wr => ∃ (m : Nat) (Y : List Int), m ≤ k ∧ j = .int .i64 m ∧ wr.ownsRow w.heap.size 3 1 (.slice (some ⟨g, 0, none⟩) l.length cap) l.length (Y.map (.int .i64)) ∧ Hid (Y.Perm l ∧ midTo Y k m) ∧ Ext w wr) (fun j _ => (intOf j).toNat)
      case atStart => exact ⟨k, X, Nat.le_refl _, rfl, HO.out, ⟨hX.out.1, mid_of_up hX.out.2⟩, hx⟩
      case round =>
        clear HO hX hx
        obtain ⟨m, Y, hm, rfl, hown, hY, hx⟩ := hrel
        have hYl := hY.out.1.length_eq
        cases m with
        | zero =>
          have hup := up_of_mid0 hY.out.2
          have HU := Lib.hid (And.intro hY.out.1 hup)
          have HO := Lib.hid hown
          clear hown hup hYl
          go_upto_region 6 with fail
          go_quiet (fail)
          go_wp2
          refine ⟨⟨k + 1, Y, by omega, by go_num, owns_ext HO.out ((Ext.refl _).drewN _), HU.out, hx.drewN _⟩, by simp [intOf]; omega⟩
        | succ p =>
          have hpl : p + 1 < Y.length := by omega
          have q1 : wr.cell? ⟨g, p + 1, none⟩ = some (.int .i64 (Y.getD (p + 1) 0)) := by
            rw [hown.cellAt (p + 1) (by omega), List.getElem?_map, List.getD_eq_getElem?_getD, List.getElem?_eq_getElem hpl]; rfl
          have q0 : wr.cell? ⟨g, p, none⟩ = some (.int .i64 (Y.getD p 0)) := by
            rw [hown.cellAt p (by omega), List.getElem?_map, List.getD_eq_getElem?_getD, List.getElem?_eq_getElem (by omega)]; rfl
          have f1 := hown.frozenAt (p + 1)
          have f0 := hown.frozenAt p
          have b1 : (p : Int) + 1 < (l.length : Int) := by omega
          have b2 : (p : Int) < (l.length : Int) := by omega
          have b3 : (0 : Int) ≤ (p : Int) := by omega
          have b4 : (0 : Int) ≤ (p : Int) + 1 := by omega
          have b5 : ((p : Int) + 1).toNat = p + 1 := by omega
          have t1 : decide ((0 : Int) < (p : Int) + 1) = true := by rw [decide_eq_true_eq]; omega
          have E1 : IntKind.i64.wrap ((p : Int) + 1 - 1) = (p : Int) := by rw [IntWalk.i64_in _ (by omega)]; omega
          have HY := hY
          have HO := Lib.hid hown
          clear hown hY hYl
          by_cases hc : Y.getD (p + 1) 0 < Y.getD p 0
          · have HM := Lib.hid (mid_swap hpl hm HY.out.2 hc)
            have HP := Lib.hid ((swapL_perm hpl).trans HY.out.1)
            have HSW := Lib.hid (swap_map (l := Y) (p := p))
            generalize Y.getD (p + 1) 0 = x at *
            generalize Y.getD p 0 = y at *
            have t2 : decide (x < y) = true := by simpa using hc
            clear hpl hc
            go_upto_region 6 with fail
            go_quiet (fail)
            go_upto_region 8 with fail
            go_region
            all_goals (
              have hown2 := (((owns_ext HO.out ((Ext.refl wr).drewN (nq + 1))).stored (p + 1) (.int .i64 y)).1.stored p (.int .i64 x)).1
              rw [HSW.out] at hown2
              have hx2 := ((hx.drewN (nq + 1)).setCell (p := ⟨g, p + 1, none⟩) hgw (.int .i64 y)).setCell (p := ⟨g, p, none⟩) hgw (.int .i64 x)
              have HF := Lib.hid (And.intro hown2 hx2)
              clear hown2 hx2 q0 q1 f0 f1
              go_wp2
              refine ⟨⟨p, swapL Y p, by omega, by go_num, HF.out.1, ⟨HP.out, HM.out⟩, HF.out.2⟩, by simp [intOf]⟩)
          · have HU := Lib.hid (And.intro HY.out.1 (up_of_mid HY.out.2 (by omega)))
            generalize Y.getD (p + 1) 0 = x at *
            generalize Y.getD p 0 = y at *
            have t2 : decide (x < y) = false := by simpa using hc
            clear hpl hc
            go_upto_region 6 with fail
            go_quiet (fail)
            go_wp2
            refine ⟨⟨k + 1, Y, by omega, by go_num, owns_ext HO.out ((Ext.refl _).drewN _), HU.out, hx.drewN _⟩, by simp [intOf]; omega⟩
    · have hke : k = l.length := by omega
      have HFIN : Hid (IntsAt wr (.slice (some ⟨g, 0, none⟩) l.length cap) (srt l)) := by
        have hp := hX.out.1
        have hl := hp.length_eq
        have hs := srt_eq hp (sortedTo_all (by rw [hl, ← hke]; exact hX.out.2))
        rw [← hl] at hown
        unfold Hid
        rw [← hl, ← hs]
        exact IntsAt.of_owns hown
      have x1 : decide ((k : Int) < (l.length : Int)) = false := by simpa using hlt
      clear hke hown
      go_wp2
      go_ret
      exact ⟨_, rfl, hx, HFIN.out⟩
theorem sort_none (hv : Value) (w : World) (hl : IntsAt w hv []) : Calls Tryz.prog 28 #[hv] w fun e w' => ∃ v1, e = .returned v1 ∧ Ext w w' ∧ IntsAt w' v1 (srt []) := by
  have HV := Lib.hid (show RowAt w hv 0 [] from hl)
  obtain ⟨a, c, rfl, h1, h2, _⟩ := hl.open
  have h0 : (0 : Int) < 0 ↔ False := by simp
  have HSZ : Hid (0 + 0 ≤ maxLen ∧ (0 + 0) * 8 ≤ 140737488355328) := ⟨Nat.zero_le _, Nat.zero_le _⟩
  clear hl h0
  go_enter Tryz.func28, Tryz.ntmps28
  go_wp2_with (at_builtin; refine wpList_append_row E_ints rfl _ _ rfl w.heap.size rfl (World.ownsRow_nil _ _ _ _) rfl HV.out (by simp) (by simp) ?_ HSZ.out.1 HSZ.out.2 (Nat.le_refl _); intro v8 w8 hown8 hgr8 hnil; have hx8 : Ext w w8 := (Ext.refl _).grown hgr8 (fun g hg => by cases hg); have hv8 := hnil.2 ⟨rfl, rfl⟩; subst hv8; clear hown8 hgr8 hnil)
  go_loopw [4] (fun i wr => i = .int .i64 0 ∧ Ext w wr) (fun _ _ => 0)
  case atStart => exact ⟨rfl, hx8⟩
  case round =>
    obtain ⟨rfl, hx⟩ := hrel
    go_wp2
    go_ret
    exact ⟨_, rfl, hx, by rw [show srt [] = [] from by simp [srt]]; exact IntsAt.nil _⟩
theorem sort_any (hv : Value) (l : List Int) (w : World) (hl : IntsAt w hv l) (hlen : l.length ≤ 1000) :
    Calls Tryz.prog 28 #[hv] w fun e w' => ∃ v1, e = .returned v1 ∧ Ext w w' ∧ IntsAt w' v1 (srt l) := by
  cases l with
  | nil => exact sort_none hv w hl
  | cons x l => exact sort_some hv (x :: l) w hl hlen (by simp)
end Go.Proofs.YtpheidlocijdkaaGreatDoor
