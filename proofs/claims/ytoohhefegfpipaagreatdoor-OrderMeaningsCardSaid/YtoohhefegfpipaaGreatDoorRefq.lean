/- The reference's moved and once. -/
import Derived.Test.YtoohhefegfpipaaGreatDoorOaj
import Derived.Test.YtoohhefegfpipaaGreatDoorHeldq
import Derived.Test.YtoohhefegfpipaaGreatDoorPlaq
import Derived.Test.YtoohhefegfpipaaGreatDoorOsr
namespace Go.Proofs.YtoohhefegfpipaaGreatDoor
open Go.RowKit
set_option maxRecDepth 100000 in
theorem rmoved_any (va vb : Value) (xs ys : List Int) (w : World) (ha : IntsAt w va xs) (hb : IntsAt w vb ys) (hl : xs.length = ys.length) :
  Calls Tryz.prog 72 #[va, vb] w fun e w' => e = .returned (.int .i64 (movedL xs ys)) ∧ Ext w w' := by
 obtain ⟨a, c, rfl, h1, h2, h3⟩ := ha.open
 obtain ⟨a', c', rfl, h1', h2', h3'⟩ := hb.open
 have H3 := Lib.hid h3
 have H3' := Lib.hid h3'
 have HL := Lib.hid hl
 clear h3 h3' ha hb hl
 go_enter Tryz.func72, Tryz.ntmps72
 go_wp2
 go_loopw [5, 6] (fun n i wr => ∃ k : Nat, k ≤ xs.length ∧ i = .int .i64 k ∧ n = .int .i64 (movedL (xs.take k) (ys.take k)) ∧ Ext w wr) (fun _ i _ => xs.length - (intOf i).toNat)
 case atStart => exact ⟨0, Nat.zero_le _, rfl, by simp [movedL], Ext.refl _⟩
 case round =>
  obtain ⟨k, hk, rfl, rfl, hx⟩ := hrel
  by_cases hlt : k < xs.length
  ·obtain ⟨b, o, x, rfl, hxk, c0⟩ := H3.out k hlt
   obtain ⟨b', o', y, rfl, hyk, c0'⟩ := H3'.out k (by have := HL.out; omega)
   have hbd := movedL_bd (xs.take k) (ys.take k)
   rw [List.length_take_of_le hk] at hbd
   have hs := movedL_take hxk.out hyk.out
   have q0 := hx.cell c0
   have q1 := hx.cell c0'
   have k2 : k < ys.length := by have := HL.out; omega
   by_cases hxy : x = y
   ·rw [if_pos hxy] at hs
    have e : (x != y) = false := by simp [hxy]
    have HS := Lib.hid hs
    clear hs hxy c0 c0'
    generalize movedL (xs.take k) (ys.take k) = m at *
    go_upto_region 5 with fail
    go_quiet (fail)
    go_wp2
    go_roundw
    case rel => exact ⟨k + 1, by omega, by go_num, by rw [HS.out]; go_num, hx.trans ((Ext.refl _).drewN _)⟩
    case measure => simp [intOf]; omega
   ·rw [if_neg hxy] at hs
    have e : (x != y) = true := by simp [hxy]
    have HS := Lib.hid hs
    clear hs hxy c0 c0'
    generalize movedL (xs.take k) (ys.take k) = m at *
    go_upto_region 5 with fail
    go_quiet (fail)
    go_wp2
    go_roundw
    case rel => exact ⟨k + 1, by omega, by go_num, by rw [HS.out], hx.trans ((Ext.refl _).drewN _)⟩
    case measure => simp [intOf]; omega
  ·have HE : Hid (movedL (xs.take k) (ys.take k) = movedL xs ys) := by
    have := HL.out
    unfold Hid; rw [List.take_of_length_le (by omega), List.take_of_length_le (by omega)]
   rw [HE.out]
   go_wp2
   go_ret
   exact ⟨rfl, hx⟩
theorem once_take {l : List Int} {k : Nat} {x : Int} (h : l[k]? = some x) (hn : nodupB (l.take k) = true) : nodupB (l.take (k + 1)) = decide (x ∉ l.take k) := by
 rw [List.take_add_one, h]
 exact nodup_snoc (nodupB_iff.1 hn) x
theorem once_bad {l : List Int} {k j : Nat} {x : Int} (hk : l[k]? = some x) (hj : l[j]? = some x) (h : j < k) : nodupB l = false := by
 rw [← Bool.not_eq_true, nodupB_iff]
 intro hn
 have h1 := (List.getElem?_eq_some_iff.1 hk)
 have h2 := (List.getElem?_eq_some_iff.1 hj)
 have := (List.getElem_inj hn).1 (h1.2.trans h2.2.symm)
 omega
set_option maxRecDepth 100000 in
theorem ronce_any (v : Value) (l : List Int) (w : World) (hv : IntsAt w v l) : Calls Tryz.prog 71 #[v] w fun e w' => e = .returned (.bool (nodupB l)) ∧ Ext w w' := by
 obtain ⟨a, c, rfl, h1, h2, h3⟩ := hv.open
 have H3 := Lib.hid h3
 clear h3 hv
 go_enter Tryz.func71, Tryz.ntmps71
 go_wp2
 go_loopw [3] (fun i wr => ∃ k : Nat, k ≤ l.length ∧ i = .int .i64 (k : Int) ∧ Hid (nodupB (l.take k) = true) ∧ Ext w wr) (fun i _ => l.length - (intOf i).toNat)
 case atStart => exact ⟨0, Nat.zero_le _, rfl, rfl, Ext.refl _⟩
 case round =>
  obtain ⟨k, hk, rfl, hnd, hx⟩ := hrel
  by_cases hlt : k < l.length
  ·have x1 : decide ((k : Int) < (l.length : Int)) = true := by simpa using hlt
   obtain ⟨b, o, x, rfl, hxk, c0⟩ := H3.out k hlt
   have HX := Lib.hid hx
   have HC := Lib.hid c0
   clear hx c0
   go_wp2
   obtain ⟨wo, rfl⟩ : ∃ wo : World, wo = wr := ⟨_, rfl⟩
   go_loopw [4] (fun i wz => ∃ j : Nat, j ≤ k ∧ i = .int .i64 (j : Int) ∧ Hid (x ∉ l.take j) ∧ Ext w wz) (fun i _ => k - (intOf i).toNat)
   case atStart => exact ⟨0, Nat.zero_le _, rfl, by simp [Hid], HX.out⟩
   case round =>
    obtain ⟨j, hj, rfl, hno, hx⟩ := hrel
    by_cases hlt2 : j < k
    ·have x2 : decide ((j : Int) < (k : Int)) = true := by simpa using hlt2
     obtain ⟨b', o', y, hbo, hyj, c1⟩ := H3.out j (by omega)
     cases hbo
     have q0 := hx.cell HC.out
     have q1 := hx.cell c1
     have k1 : (0 : Int) ≤ (k : Int) := by omega
     have k2 : (k : Int) < (l.length : Int) := by omega
     have j1 : (0 : Int) ≤ (j : Int) := by omega
     have j2 : (j : Int) < (l.length : Int) := by omega
     by_cases hxy : y = x
     ·subst hxy
      have HR := Lib.hid (once_bad hxk.out hyj.out hlt2)
      have HX2 := Lib.hid hx
      clear hx hno hnd c1 hxk hyj
      go_upto_region 7 with fail
      go_quiet (fail)
      go_wp2
      go_ret
      exact ⟨by rw [HR.out] <;> rfl, HX2.out.drewN _⟩
     ·have e : (y == x) = false := beq_eq_false_iff_ne.2 hxy
      have e2 : decide (y = x) = false := by simpa using hxy
      have HN2 : Hid (x ∉ l.take (j + 1)) := by
       unfold Hid
       rw [List.take_add_one, hyj.out]
       intro h
       rcases List.mem_append.1 h with h | h
       ·exact hno.out h
       ·simp at h; exact hxy h.symm
      have HX2 := Lib.hid hx
      clear hx hno c1 hyj hxy
      go_upto_region 7 with fail
      go_quiet (fail)
      go_wp2
      exact ⟨⟨j + 1, by omega, by go_num, HN2.out, HX2.out.drewN _⟩, by simp [intOf]; omega⟩
    ·have hje : j = k := by omega
     subst hje
     have HN2 : Hid (nodupB (l.take (j + 1)) = true) := by
      unfold Hid
      rw [once_take hxk.out hnd.out, decide_eq_true_eq]
      exact hno.out
     have x2 : decide ((j : Int) < (j : Int)) = false := by simp
     have HX2 := Lib.hid hx
     clear hx hno hnd hxk
     go_wp2
     exact ⟨⟨j + 1, by omega, by go_num, HN2.out, HX2.out⟩, by simp [intOf]; omega⟩
  ·have hke : k = l.length := by omega
   have x1 : decide ((k : Int) < (l.length : Int)) = false := by simpa using hlt
   have HR : Hid (nodupB l = true) := by
    have h := hnd.out
    rwa [List.take_of_length_le (by omega)] at h
   have HX := Lib.hid hx
   clear hnd hx
   go_wp2
   go_ret
   exact ⟨by rw [HR.out] <;> rfl, HX.out⟩
end Go.Proofs.YtoohhefegfpipaaGreatDoor

/- The reference's orders. -/
namespace Go.Proofs.YtoohhefegfpipaaGreatDoor
open Go.RowKit
def extP (n : Nat) (l : List Int) (x : Nat) : List (List Int) := (((numsOf n).take x).filter fun y => nodupB (l ++ [y])).map fun y => l ++ [y]
theorem nums_get {n x : Nat} (h : x < n) : (numsOf n)[x]? = some (x : Int) := by unfold numsOf; rw [List.getElem?_map, List.getElem?_range h]; rfl
theorem extP_succ {n x : Nat} {l : List Int} (h : x < n) : extP n l (x + 1) = extP n l x ++ (if nodupB (l ++ [(x : Int)]) then [l ++ [(x : Int)]] else []) := by
 unfold extP
 rw [List.take_add_one, nums_get h, List.filter_append, List.map_append]
 congr 1
 cases hb : nodupB (l ++ [(x : Int)]) <;> simp [hb]
theorem extP_all (n : Nat) (l : List Int) : extP n l n = ((numsOf n).filter fun x => nodupB (l ++ [x])).map fun x => l ++ [x] := by
 unfold extP
 rw [List.take_of_length_le (by simp [numsOf])]
theorem extO_take {n k : Nat} {all : List (List Int)} {l : List Int} (h : all[k]? = some l) : extO n (all.take (k + 1)) = extO n (all.take k) ++ extP n l n := by
 rw [extP_all]
 unfold extO
 rw [List.take_add_one, h, List.flatMap_append]
 simp
theorem extP_len (n : Nat) (l : List Int) (x : Nat) : (extP n l x).length ≤ n := by
 unfold extP
 rw [List.length_map]
 refine Nat.le_trans (List.length_filter_le _ _) ?_
 rw [List.length_take]
 simp [numsOf]; omega
theorem extO_len (n : Nat) : ∀ all : List (List Int), (extO n all).length ≤ n * all.length
 | [] => by simp [extO]
 | l :: all => by
  have h := extO_len n all
  have h2 := extP_len n l n
  rw [extP_all] at h2
  have e : extO n (l :: all) = (((numsOf n).filter fun x => nodupB (l ++ [x])).map fun x => l ++ [x]) ++ extO n all := rfl
  rw [e, List.length_append, List.length_cons, Nat.mul_succ]
  omega
theorem ordO_size (n : Nat) (hn : n ≤ 5) : ∀ i, (ordO n i).length ≤ 5 ^ i
 | 0 => by simp [ordO]
 | i + 1 => by
  have h := ordO_size n hn i
  have h2 := extO_len n (ordO n i)
  have h3 : n * (ordO n i).length ≤ 5 * 5 ^ i := Nat.mul_le_mul hn h
  show (extO n (ordO n i)).length ≤ 5 ^ (i + 1)
  rw [Nat.pow_succ]
  omega
theorem ordO_3125 (n : Nat) (hn : n ≤ 5) {i : Nat} (hi : i ≤ 5) : (ordO n i).length ≤ 3125 := Nat.le_trans (ordO_size n hn i) (by
 have h : 5 ^ i ≤ 5 ^ 5 := Nat.pow_le_pow_right (by decide) hi
 have e : (5 : Nat) ^ 5 = 3125 := by decide
 omega)
theorem ordO_wide (n : Nat) : ∀ (i : Nat) (l : List Int), l ∈ ordO n i → l.length = i
 | 0, l, h => by simp [ordO] at h; rw [h]; rfl
 | i + 1, l, h => by
  have e : ordO n (i + 1) = extO n (ordO n i) := rfl
  rw [e] at h
  unfold extO at h
  obtain ⟨q, hq, h⟩ := List.mem_flatMap.1 h
  obtain ⟨x, _, rfl⟩ := List.mem_map.1 h
  rw [List.length_append, ordO_wide n i q hq]; rfl
/-- Lists of ints, each behind a block that is not the row's own. -/
structure AllI (base : Nat) (W : World) (v : Value) (vs : List (Value × List Int)) : Prop where
 own : W.ownsRow base 47 1 v vs.length (vs.map Prod.fst)
 ms : ∀ q, q ∈ vs → IntsAt W q.1 q.2 ∧ ∀ a n c, q.1 = .slice (some a) n c → v.ownBlock ≠ some a.block ∧ a.block < W.heap.size
theorem AllI.ext {base : Nat} {W W' : World} {v : Value} {vs : List (Value × List Int)} (h : AllI base W v vs) (x : Ext W W') : AllI base W' v vs :=
 ⟨owns_ext h.own x, fun q hq => ⟨(h.ms q hq).1.ext x, fun a n c he => ⟨((h.ms q hq).2 a n c he).1, Nat.lt_of_lt_of_le ((h.ms q hq).2 a n c he).2 x.size⟩⟩⟩
theorem AllI.lower {base b' : Nat} {W : World} {v : Value} {vs : List (Value × List Int)} (h : AllI base W v vs) (hb : b' ≤ base) : AllI b' W v vs := ⟨owns_lower h.own hb, h.ms⟩
theorem AllI.rows {base : Nat} {W : World} {v : Value} {vs : List (Value × List Int)} {rows : List (List Int)} (h : AllI base W v vs) (hr : vs.map Prod.snd = rows) : IntRowsAt W v rows :=
 ⟨vs, hr, (show RowAt W v vs.length (vs.flatMap fun x => [x.1]) by rw [flat_one2]; exact RowAt.of_owns h.own), fun z hz => (h.ms z hz).1⟩
theorem AllI.push {base g cap ug un uc : Nat} {W W5 : World} {v : Value} {vs : List (Value × List Int)} {l : List Int} {ds : Array Value} {e' : TypeId} (h : AllI base W v vs) (hu : IntsAt W (.slice (some ⟨ug, 0, none⟩) un uc) l) (hn : v.ownBlock ≠ some ug) (hul : ug < W.heap.size)
 (hown : W5.ownsRow base 47 1 (.slice (some ⟨g, 0, none⟩) (vs.length + 1) cap) (vs.length + 1) (vs.map Prod.fst ++ [.slice (some ⟨ug, 0, none⟩) un uc])) (hg : (W.alloc (.cells ds e')).grownBy W5 v.ownBlock) (hloc : v.ownBlock = some g ∨ g = W.heap.size + 1) :
 AllI base W5 (.slice (some ⟨g, 0, none⟩) (vs.length + 1) cap) (vs ++ [(.slice (some ⟨ug, 0, none⟩) un uc, l)]) := by
 have hT : Touch (fun j => v.ownBlock = some j) W W5 := (Touch.of_ext ((Ext.refl W).alloc _)).trans (Touch.grown hg (fun k hk => hk))
 have hs := hT.size
 refine ⟨by rw [List.length_append, List.map_append]; exact hown, fun z hz => ?_⟩
 rcases List.mem_append.1 hz with hz | hz
 ·obtain ⟨z1, z2⟩ := h.ms z hz
  refine ⟨ints_touch z1 hT (fun a n c he hb => (z2 a n c he).1 hb), fun a n c he => ?_⟩
  obtain ⟨z3, z4⟩ := z2 a n c he
  refine ⟨fun hgq => ?_, by omega⟩
  have hg' : g = a.block := by have h : some g = some a.block := hgq; cases h; rfl
  rcases hloc with q | q
  ·exact z3 (q.trans (by rw [hg']))
  ·omega
 ·rw [List.mem_singleton] at hz
  subst hz
  refine ⟨ints_touch hu hT (fun a n c he hb => by cases he; exact hn hb), fun a n c he => ?_⟩
  cases he
  refine ⟨fun hgq => ?_, by simp only; omega⟩
  have hg' : g = ug := by have h : some g = some ug := hgq; cases h; rfl
  rcases hloc with q | q
  ·exact hn (q.trans (by rw [hg']))
  ·omega
/-- Rows that lie in new blocks. -/
def Lo (base : Nat) (vs : List (Value × List Int)) : Prop := ∀ q, q ∈ vs → ∀ a n c, q.1 = .slice (some a) n c → base ≤ a.block
theorem Lo.snoc {base : Nat} {vs : List (Value × List Int)} {rv : Value} {l : List Int} (h : Lo base vs) (hr : ∀ a n c, rv = .slice (some a) n c → base ≤ a.block) : Lo base (vs ++ [(rv, l)]) := fun q hq a n c he => by
 rcases List.mem_append.1 hq with hq | hq
 ·exact h q hq a n c he
 ·rw [List.mem_singleton] at hq; subst hq; exact hr a n c he
theorem AllI.touch {base : Nat} {W W' : World} {v : Value} {vs : List (Value × List Int)} {M : Nat → Prop} (h : AllI base W v vs) (k : Touch M W W') (h1 : ∀ g, v.ownBlock = some g → ¬ M g) (h2 : ∀ q, q ∈ vs → ∀ a n c, q.1 = .slice (some a) n c → ¬ M a.block) : AllI base W' v vs :=
 ⟨owns_touch h.own k h1, fun q hq => ⟨ints_touch (h.ms q hq).1 k (h2 q hq), fun a n c he => ⟨((h.ms q hq).2 a n c he).1, Nat.lt_of_lt_of_le ((h.ms q hq).2 a n c he).2 k.size⟩⟩⟩
/-- Rows of lists that stand whatever is written into elder blocks. -/
def SafeR (base : Nat) (W : World) (v : Value) (rows : List (List Int)) : Prop := ∀ W2, Touch (fun j => j < base) W W2 → IntRowsAt W2 v rows
theorem SafeR.at {base : Nat} {W : World} {v : Value} {rows : List (List Int)} (h : SafeR base W v rows) : IntRowsAt W v rows := h W (Touch.refl _ _)
theorem SafeR.on {base b2 : Nat} {W W2 : World} {v : Value} {rows : List (List Int)} (h : SafeR base W v rows) (k : Touch (fun j => j < base) W W2) (hb : b2 ≤ base) : SafeR b2 W2 v rows := fun W3 h3 => h W3 (k.trans (h3.mono (fun _ hj => Nat.lt_of_lt_of_le hj hb)))
theorem AllI.safe {base : Nat} {W : World} {v : Value} {vs : List (Value × List Int)} {rows : List (List Int)} (h : AllI base W v vs) (hl : Lo base vs) (hr : vs.map Prod.snd = rows) : SafeR base W v rows := fun W2 k =>
 (h.touch k (fun g hg hm => by have := owns_block h.own g hg; omega) (fun q hq a n c he hm => by have := hl q hq a n c he; omega)).rows hr
theorem ints_cellsO (xs : List Int) : ∀ u, u ∈ xs.map (Value.int .i64) → u.oneCell' = true := fun u hu => by
 obtain ⟨x, _, rfl⟩ := List.mem_map.1 hu
 rfl
set_option maxRecDepth 100000 in
set_option maxHeartbeats 16000000 in
theorem rorders_any (n : Nat) (w : World) (hn : n ≤ 5) : Calls Tryz.prog 107 #[.int .i64 (n : Int)] w fun e w' => ∃ v, e = .returned v ∧ SafeR w.heap.size w' v (ordO n n) ∧ Ext w w' := by
 have hown := World.ownsRow_lit (base := w.heap.size) (e := 47) (size := 1) w #[.slice none 0 0] 1 (Nat.le_refl _) (by unfold maxLen; omega) rfl
 have h0 : AllI w.heap.size (w.alloc (.cells #[.slice none 0 0] 47)) (.slice (some ⟨w.heap.size, 0, none⟩) 1 1) [(.slice none 0 0, [])] :=
  ⟨hown, fun q hq => by
   rw [List.mem_singleton.1 hq]
   exact ⟨IntsAt.of_owns (base := 0) (e := 3) (v := .slice none 0 0) (xs := []) (World.ownsRow_nil _ _ _ _), fun a n c he => by cases he⟩⟩
 have H0 := Lib.hid h0
 clear hown h0
 go_enter Tryz.func107, Tryz.ntmps107
 go_wp2
 go_loopw [3, 4] (fun av j wr => ∃ (i : Nat) (vs : List (Value × List Int)), i ≤ n ∧ j = .int .i64 (i : Int) ∧ Hid (vs.map Prod.snd = ordO n i) ∧ Hid (AllI w.heap.size wr av vs) ∧ Hid (Lo w.heap.size vs) ∧ Ext w wr) (fun _ j _ => n - (intOf j).toNat)
 case atStart => exact ⟨0, [(.slice none 0 0, [])], Nat.zero_le _, rfl, by simp [Hid, ordO], H0.out, (fun q hq a n c he => by rw [List.mem_singleton.1 hq] at he; cases he), (Ext.refl w).alloc _⟩
 case round =>
  obtain ⟨i, vs, hi, rfl, hvs, hal, hlo, hx⟩ := hrel
  have hrow := hal.out.rows hvs.out
  by_cases hlt : i < n
  ·have x1 : decide ((i : Int) < (n : Int)) = true := by simpa using hlt
   obtain ⟨aa, ac, rfl, _, _, h3⟩ := hrow.open
   have hlen := ordO_3125 n hn (i := i) (by omega)
   have hwd := ordO_wide n i
   have HEX : Hid (ordO n (i + 1) = extO n (ordO n i)) := rfl
   generalize ordO n i = all at *
   have H3 := Lib.hid h3
   have HWD := Lib.hid hwd
   have HX := Lib.hid hx
   clear hrow h3 hwd hvs hal hx H0 hlo
   go_wp2
   obtain ⟨wo, rfl⟩ : ∃ wo : World, wo = wr := ⟨_, rfl⟩
   go_loopw [5, 6] (fun nv j wz => ∃ (k : Nat) (vs : List (Value × List Int)), k ≤ all.length ∧ j = .int .i64 (k : Int) ∧ Hid (vs.map Prod.snd = extO n (all.take k)) ∧ Hid (AllI wo.heap.size wz nv vs) ∧ Hid (Lo w.heap.size vs) ∧ Ext wo wz) (fun _ j _ => all.length - (intOf j).toNat)
   case atStart => exact ⟨0, [], Nat.zero_le _, rfl, by simp [Hid, extO], ⟨World.ownsRow_nil _ _ _ _, fun q hq => by simp at hq⟩, (fun q hq => by simp at hq), Ext.refl _⟩
   case round =>
    obtain ⟨k, vs1, hk, rfl, hvs, hal, hlo, hx⟩ := hrel
    by_cases hlt2 : k < all.length
    ·have x2 : decide ((k : Int) < (all.length : Int)) = true := by simpa using hlt2
     obtain ⟨b, o, l, ra, rc, rfl, hlk, c0, hli, _, _⟩ := H3.out k hlt2
     have hll : l.length ≤ 5 := by have := HWD.out l (List.mem_of_getElem? hlk.out); omega
     have HTK := Lib.hid (extO_take (n := n) hlk.out)
     have hbl := extO_len n (all.take k)
     rw [List.length_take, Nat.min_eq_left hk] at hbl
     have hbl2 : (extO n (all.take k)).length ≤ 15625 := by
      have h := Nat.mul_le_mul hn (Nat.le_trans hk hlen)
      have h2 : n * k ≤ 5 * 3125 := Nat.mul_le_mul hn (Nat.le_trans hk hlen)
      omega
     have HC0 := Lib.hid c0
     have HLI := Lib.hid hli
     have HVS := Lib.hid hvs.out
     have HAL := Lib.hid hal.out
     have HX1 := Lib.hid hx
     have HLO1 := Lib.hid hlo.out
     clear hvs hal hx hlk c0 hli hbl hlo
     go_wp2
     go_loopw [5, 7] (fun nv j wz => ∃ (x : Nat) (vs : List (Value × List Int)), x ≤ n ∧ j = .int .i64 (x : Int) ∧ Hid (vs.map Prod.snd = extO n (all.take k) ++ extP n l x) ∧ Hid (AllI wo.heap.size wz nv vs) ∧ Hid (Lo w.heap.size vs) ∧ Ext wo wz) (fun _ j _ => n - (intOf j).toNat)
     case atStart => exact ⟨0, vs1, Nat.zero_le _, rfl, by unfold Hid; rw [HVS.out]; simp [extP], HAL.out, HLO1.out, HX1.out⟩
     case round =>
      obtain ⟨x, vs2, hxn, rfl, hvs, hal, hlo, hx⟩ := hrel
      by_cases hlt3 : x < n
      ·have x3 : decide ((x : Int) < (n : Int)) = true := by simpa using hlt3
       have k1 : (0 : Int) ≤ (k : Int) := by omega
       have k2 : (k : Int) < (all.length : Int) := by omega
       have c0 := hx.cell HC0.out
       have HPS := Lib.hid (extP_succ (l := l) hlt3)
       have hv2 : vs2.length ≤ 20000 := by
        have h := congrArg List.length hvs.out
        rw [List.length_map, List.length_append] at h
        have := extP_len n l x
        omega
       obtain ⟨_, _, rfl, _⟩ := RowAt.open (RowAt.of_owns hal.out.own)
       have HSZ2 := Lib.hid (show vs2.length + 1 ≤ maxLen ∧ (vs2.length + 1) * 24 ≤ 140737488355328 by unfold maxLen; omega)
       have HSZ0 := Lib.hid (show 0 + l.length ≤ maxLen ∧ (0 + l.length) * 8 ≤ 140737488355328 by unfold maxLen; omega)
       have HSZ1 := Lib.hid (show l.length + 1 ≤ maxLen ∧ (l.length + 1) * 8 ≤ 140737488355328 by unfold maxLen; omega)
       have HIN := Lib.hid (HLI.out.ext hx)
       have HVS2 := Lib.hid hvs.out
       have HAL2 := Lib.hid hal.out
       have HX2 := Lib.hid hx
       have HLO2 := Lib.hid hlo.out
       have HLM := Lib.hid (show (l.map (Value.int .i64)).length = l.length * 1 by simp)
       clear hvs hal hx hv2 hlo
       obtain ⟨wq, rfl⟩ : ∃ wq : World, wq = wr := ⟨_, rfl⟩
       cases hb : nodupB (l ++ [(x : Int)]) with
       | false =>
        rw [hb] at HPS
        have HON := Lib.hid (fun v W1 (hv : IntsAt W1 v (l ++ [(x : Int)])) => by have h := ronce_any v (l ++ [(x : Int)]) W1 hv; rw [hb] at h; exact h)
        clear hb
        go_wp2_with (first
         | (at_builtin; refine wpList_append_row (v := .slice none 0 0) (k := 0) (xs := []) (xv := .slice ra l.length rc) (m := l.length) (news := l.map (.int .i64)) E_ints rfl _ _ rfl wq.heap.size rfl (World.ownsRow_nil _ _ _ _) rfl HIN.out HLM.out (ints_cellsO l) ?_ HSZ0.out.1 HSZ0.out.2 (by first | exact Nat.le_refl _ | simp); intro v6 w6 hown6 hg6 _; have HX6 := Lib.hid (Ext.grown (Ext.refl wq) hg6 (fun k hk => by cases hk)); have HO6 := Lib.hid (show w6.ownsRow wq.heap.size 3 1 v6 l.length (l.map (.int .i64)) by simpa using hown6); clear HIN hown6 hg6)
         | (at_builtin; refine wpList_push_at E_ints rfl _ _ rfl wq.heap.size rfl HO6.out rfl rfl rfl (by simp [Value.oneCell']) ?_ HSZ1.out.1 HSZ1.out.2 HX6.out.size; intro g8 cap8 w8 hown8 hext8 _ _; have HX8 := Lib.hid (hext8 _ HX6.out (Nat.le_refl _)); have HI8 := Lib.hid (show IntsAt w8 (.slice (some ⟨g8, 0, none⟩) (l.length + 1) cap8) (l ++ [(x : Int)]) from IntsAt.of_owns (base := wq.heap.size) (by simpa using hown8)); have HG8 := Lib.hid (World.ownsRow.lt hown8 g8 rfl).2; have HGB := Lib.hid (show w.heap.size ≤ g8 from Nat.le_trans (Nat.le_trans HX.out.size HX2.out.size) (owns_block hown8 g8 rfl)); have HNB := Lib.hid (fun he => Nat.lt_irrefl _ (Nat.lt_of_lt_of_le (World.ownsRow.lt HAL2.out.own g8 he).2 (owns_block hown8 g8 rfl))); clear HO6 HX6 hown8 hext8)
         | (go_at_call 71; refine (HON.out _ _ HI8.out).mono ?_; rintro e w9 ⟨rfl, hx9⟩; have HX9 := Lib.hid hx9; clear hx9 HON))
        exact ⟨⟨x + 1, vs2, by omega, by go_num, by rw [HPS.out]; simpa [Hid] using HVS2.out, HAL2.out.ext (HX8.out.trans HX9.out), HLO2.out, HX2.out.trans (HX8.out.trans HX9.out)⟩, by simp [intOf]; omega⟩
       | true =>
        rw [hb] at HPS
        have HON := Lib.hid (fun v W1 (hv : IntsAt W1 v (l ++ [(x : Int)])) => by have h := ronce_any v (l ++ [(x : Int)]) W1 hv; rw [hb] at h; exact h)
        clear hb
        go_wp2_with (first
         | (at_builtin; refine wpList_append_row (v := .slice none 0 0) (k := 0) (xs := []) (xv := .slice ra l.length rc) (m := l.length) (news := l.map (.int .i64)) E_ints rfl _ _ rfl wq.heap.size rfl (World.ownsRow_nil _ _ _ _) rfl HIN.out HLM.out (ints_cellsO l) ?_ HSZ0.out.1 HSZ0.out.2 (by first | exact Nat.le_refl _ | simp); intro v6 w6 hown6 hg6 _; have HX6 := Lib.hid (Ext.grown (Ext.refl wq) hg6 (fun k hk => by cases hk)); have HO6 := Lib.hid (show w6.ownsRow wq.heap.size 3 1 v6 l.length (l.map (.int .i64)) by simpa using hown6); clear HIN hown6 hg6)
         | (at_builtin; refine wpList_push_at E_ints rfl _ _ rfl wq.heap.size rfl HO6.out rfl rfl rfl (by simp [Value.oneCell']) ?_ HSZ1.out.1 HSZ1.out.2 HX6.out.size; intro g8 cap8 w8 hown8 hext8 _ _; have HX8 := Lib.hid (hext8 _ HX6.out (Nat.le_refl _)); have HI8 := Lib.hid (show IntsAt w8 (.slice (some ⟨g8, 0, none⟩) (l.length + 1) cap8) (l ++ [(x : Int)]) from IntsAt.of_owns (base := wq.heap.size) (by simpa using hown8)); have HG8 := Lib.hid (World.ownsRow.lt hown8 g8 rfl).2; have HGB := Lib.hid (show w.heap.size ≤ g8 from Nat.le_trans (Nat.le_trans HX.out.size HX2.out.size) (owns_block hown8 g8 rfl)); have HNB := Lib.hid (fun he => Nat.lt_irrefl _ (Nat.lt_of_lt_of_le (World.ownsRow.lt HAL2.out.own g8 he).2 (owns_block hown8 g8 rfl))); clear HO6 HX6 hown8 hext8)
         | (go_at_call 71; refine (HON.out _ _ HI8.out).mono ?_; rintro e w9 ⟨rfl, hx9⟩; have HX9 := Lib.hid hx9; clear hx9 HON)
         | (at_builtin; refine wpList_push_at E_intss2 rfl _ _ rfl wo.heap.size rfl (owns_ext HAL2.out.own (HX8.out.trans HX9.out)) rfl rfl rfl (by simp [Value.oneCell']) ?_ HSZ2.out.1 HSZ2.out.2 (HX2.out.trans (HX8.out.trans HX9.out)).size; intro g11 cap11 w11 hown11 hext11 hg11 hloc11; have HR := Lib.hid (AllI.push (HAL2.out.ext (HX8.out.trans HX9.out)) (HI8.out.ext HX9.out) HNB.out (Nat.lt_of_lt_of_le HG8.out HX9.out.size) hown11 hg11 hloc11); have HX11 := Lib.hid (hext11 _ (HX2.out.trans (HX8.out.trans HX9.out)) (Nat.le_refl _)); clear hown11 hext11 hg11 hloc11))
        exact ⟨⟨x + 1, _, by omega, by go_num, by unfold Hid; rw [List.map_append, HVS2.out, HPS.out, List.append_assoc]; simp, HR.out, HLO2.out.snoc (fun a n c he => by cases he; exact HGB.out), HX11.out⟩, by simp [intOf]; omega⟩
      ·have hxe : x = n := by omega
       subst hxe
       have x3 : decide ((x : Int) < (x : Int)) = false := by simp
       have HVS2 := Lib.hid hvs.out
       have HAL2 := Lib.hid hal.out
       have HX2 := Lib.hid hx
       have HLO2 := Lib.hid hlo.out
       clear hvs hal hx hlo
       go_wp2
       exact ⟨⟨k + 1, vs2, by omega, by go_num, by unfold Hid; rw [HVS2.out, HTK.out], HAL2.out, HLO2.out, HX2.out⟩, by simp [intOf]; omega⟩
    ·have hke : all.take k = all := List.take_of_length_le (by omega)
     have x2 : decide ((k : Int) < (all.length : Int)) = false := by simpa using hlt2
     rw [hke] at hvs
     have HVS := Lib.hid hvs.out
     have HAL := Lib.hid (hal.out.lower HX.out.size)
     have HX1 := Lib.hid (HX.out.trans hx)
     have HLO1 := Lib.hid hlo.out
     clear hvs hal hx hke hlo
     go_wp2
     exact ⟨⟨i + 1, vs1, by omega, by go_num, by unfold Hid; rw [HVS.out, HEX.out], HAL.out, HLO1.out, HX1.out⟩, by simp [intOf]; omega⟩
  ·have hie : i = n := by omega
   subst hie
   have x1 : decide ((i : Int) < (i : Int)) = false := by simp
   have HR := Lib.hid (hal.out.safe hlo.out hvs.out)
   have HX := Lib.hid hx
   clear hrow hvs hal hx H0 hlo
   go_wp2
   go_ret
   exact ⟨_, rfl, HR.out, HX.out⟩
end Go.Proofs.YtoohhefegfpipaaGreatDoor

/- Two rows of lists, apart from each other: pushed and stored. -/
namespace Go.Proofs.YtoohhefegfpipaaGreatDoor
open Go.RowKit
/-- One row's block is none that another row of lists leans on. -/
structure Apt (av bv : Value) (vs : List (Value × List Int)) : Prop where
 own : ∀ g, av.ownBlock = some g → bv.ownBlock ≠ some g
 ms : ∀ q, q ∈ vs → ∀ a n c, q.1 = .slice (some a) n c → av.ownBlock ≠ some a.block
theorem Apt.none (bv : Value) (vs : List (Value × List Int)) : Apt (.slice none 0 0) bv vs := ⟨(fun _ h => by cases h), (fun _ _ _ _ _ _ h => by cases h)⟩
theorem AllI.pushv {base g cap n : Nat} {W W5 : World} {v rv : Value} {vs : List (Value × List Int)} {l : List Int} {ds : Array Value} {e' : TypeId} (h : AllI base W v vs) (hl : vs.length = n) (hu : IntsAt W rv l) (hn : ∀ a n c, rv = .slice (some a) n c → v.ownBlock ≠ some a.block ∧ a.block < W.heap.size)
 (hown : W5.ownsRow base 47 1 (.slice (some ⟨g, 0, none⟩) (n + 1) cap) (n + 1) (vs.map Prod.fst ++ [rv])) (hg : (W.alloc (.cells ds e')).grownBy W5 v.ownBlock) (hloc : v.ownBlock = some g ∨ g = W.heap.size + 1) :
 AllI base W5 (.slice (some ⟨g, 0, none⟩) (n + 1) cap) (vs ++ [(rv, l)]) := by
 subst hl
 have hT : Touch (fun j => v.ownBlock = some j) W W5 := (Touch.of_ext ((Ext.refl W).alloc _)).trans (Touch.grown hg (fun k hk => hk))
 have hs := hT.size
 have key : ∀ z : Value × List Int, IntsAt W z.1 z.2 → (∀ a n c, z.1 = .slice (some a) n c → v.ownBlock ≠ some a.block ∧ a.block < W.heap.size) → IntsAt W5 z.1 z.2 ∧ ∀ a n c, z.1 = .slice (some a) n c → (Value.slice (some ⟨g, 0, Option.none⟩) (vs.length + 1) cap).ownBlock ≠ some a.block ∧ a.block < W5.heap.size := fun z z1 z2 => by
  refine ⟨ints_touch z1 hT (fun a n c he hb => (z2 a n c he).1 hb), fun a n c he => ?_⟩
  obtain ⟨z3, z4⟩ := z2 a n c he
  refine ⟨fun hgq => ?_, by omega⟩
  have hg' : g = a.block := by have h : some g = some a.block := hgq; cases h; rfl
  rcases hloc with q | q
  ·exact z3 (q.trans (by rw [hg']))
  ·omega
 refine ⟨by rw [List.length_append, List.map_append]; exact hown, fun z hz => ?_⟩
 rcases List.mem_append.1 hz with hz | hz
 ·exact key z (h.ms z hz).1 (h.ms z hz).2
 ·rw [List.mem_singleton] at hz
  subst hz
  exact key _ hu hn
/-- Two rows of lists that lie apart. -/
structure Duo (base : Nat) (W : World) (av bv : Value) (vsa vsb : List (Value × List Int)) : Prop where
 a : AllI base W av vsa
 b : AllI base W bv vsb
 ab : Apt av bv vsb
 ba : Apt bv av vsa
theorem Duo.symm {base : Nat} {W : World} {av bv : Value} {vsa vsb : List (Value × List Int)} (h : Duo base W av bv vsa vsb) : Duo base W bv av vsb vsa := ⟨h.b, h.a, h.ba, h.ab⟩
theorem Duo.ext {base : Nat} {W W' : World} {av bv : Value} {vsa vsb : List (Value × List Int)} (h : Duo base W av bv vsa vsb) (x : Ext W W') : Duo base W' av bv vsa vsb := ⟨h.a.ext x, h.b.ext x, h.ab, h.ba⟩
theorem Duo.push {base g cap n : Nat} {W W5 : World} {av bv rv : Value} {vsa vsb : List (Value × List Int)} {l : List Int} {ds : Array Value} {e' : TypeId} (h : Duo base W av bv vsa vsb) (hl : vsa.length = n) (hu : IntsAt W rv l) (hn : ∀ a n c, rv = .slice (some a) n c → av.ownBlock ≠ some a.block ∧ bv.ownBlock ≠ some a.block ∧ a.block < W.heap.size)
 (hown : W5.ownsRow base 47 1 (.slice (some ⟨g, 0, none⟩) (n + 1) cap) (n + 1) (vsa.map Prod.fst ++ [rv])) (hg : (W.alloc (.cells ds e')).grownBy W5 av.ownBlock) (hloc : av.ownBlock = some g ∨ g = W.heap.size + 1) :
 Duo base W5 (.slice (some ⟨g, 0, none⟩) (n + 1) cap) bv (vsa ++ [(rv, l)]) vsb := by
 subst hl
 have hT : Touch (fun j => av.ownBlock = some j) W W5 := (Touch.of_ext ((Ext.refl W).alloc _)).trans (Touch.grown hg (fun k hk => hk))
 refine ⟨h.a.pushv rfl hu (fun a n c he => ⟨(hn a n c he).1, (hn a n c he).2.2⟩) hown hg hloc, h.b.touch hT (fun k hk hj => h.ab.own k hj hk) (fun q hq a n c he hj => h.ab.ms q hq a n c he hj), ⟨fun k hk hb => ?_, fun q hq a n c he hk => ?_⟩, ⟨fun k hk hb => ?_, fun q hq a n c he hk => ?_⟩⟩
 ·have hk' : g = k := by have h : some g = some k := hk; cases h; rfl
  subst hk'
  rcases hloc with q | q
  ·exact h.ab.own g q hb
  ·have := (World.ownsRow.lt h.b.own g hb).2
   omega
 ·have hk' : g = a.block := by have h : some g = some a.block := hk; cases h; rfl
  rcases hloc with z | z
  ·exact h.ab.ms q hq a n c he (z.trans (by rw [hk']))
  ·have := ((h.b.ms q hq).2 a n c he).2
   omega
 ·have hk' : g = k := by have h : some g = some k := hb; cases h; rfl
  subst hk'
  rcases hloc with q | q
  ·exact h.ab.own g q hk
  ·have := (World.ownsRow.lt h.b.own g hk).2
   omega
 ·rcases List.mem_append.1 hq with hq | hq
  ·exact h.ba.ms q hq a n c he hk
  ·rw [List.mem_singleton] at hq
   subst hq
   exact (hn a n c he).2.1 hk
theorem AllI.set {base g n cap i : Nat} {W : World} {rv : Value} {vs : List (Value × List Int)} {l : List Int} (h : AllI base W (.slice (some ⟨g, 0, none⟩) n cap) vs) (hu : IntsAt W rv l) (hn : ∀ a n c, rv = .slice (some a) n c → a.block ≠ g ∧ a.block < W.heap.size) :
 AllI base (W.setCell ⟨g, i, none⟩ rv) (.slice (some ⟨g, 0, none⟩) n cap) (vs.set i (rv, l)) := by
 obtain ⟨_, _, hv, _⟩ := RowAt.open (RowAt.of_owns h.own)
 injection hv with _ hnl _
 subst hnl
 have hT : Touch (fun j => j = g) W (W.setCell ⟨g, i, none⟩ rv) := Touch.setCell _ rfl
 have hs := hT.size
 have key : ∀ z : Value × List Int, IntsAt W z.1 z.2 → (∀ a n c, z.1 = .slice (some a) n c → a.block ≠ g ∧ a.block < W.heap.size) → IntsAt (W.setCell ⟨g, i, none⟩ rv) z.1 z.2 ∧ ∀ a m c, z.1 = .slice (some a) m c → (Value.slice (some ⟨g, 0, Option.none⟩) vs.length cap).ownBlock ≠ some a.block ∧ a.block < (W.setCell ⟨g, i, none⟩ rv).heap.size := fun z z1 z2 =>
  ⟨ints_touch z1 hT (fun a n c he hb => (z2 a n c he).1 hb), fun a n c he => ⟨fun hgq => (z2 a n c he).1 (by have h : some g = some a.block := hgq; cases h; rfl), by have := (z2 a n c he).2; omega⟩⟩
 refine ⟨by rw [List.length_set, List.map_set]; exact (h.own.stored i rv).1, fun z hz => ?_⟩
 rcases List.mem_or_eq_of_mem_set hz with hz | hz
 ·exact key z (h.ms z hz).1 (fun a n c he => ⟨fun e => ((h.ms z hz).2 a n c he).1 (by rw [e]; rfl), ((h.ms z hz).2 a n c he).2⟩)
 ·subst hz
  exact key _ hu hn
theorem Duo.set {base g n cap i : Nat} {W : World} {av rv : Value} {vsa vsb : List (Value × List Int)} {l : List Int} (h : Duo base W av (.slice (some ⟨g, 0, none⟩) n cap) vsa vsb) (hu : IntsAt W rv l) (hn : ∀ a n c, rv = .slice (some a) n c → av.ownBlock ≠ some a.block ∧ a.block ≠ g ∧ a.block < W.heap.size) :
 Duo base (W.setCell ⟨g, i, none⟩ rv) av (.slice (some ⟨g, 0, none⟩) n cap) vsa (vsb.set i (rv, l)) := by
 have hT : Touch (fun j => j = g) W (W.setCell ⟨g, i, none⟩ rv) := Touch.setCell _ rfl
 refine ⟨h.a.touch hT (fun k hk e => h.ab.own k hk (by rw [e]; rfl)) (fun q hq a n c he e => h.ba.ms q hq a n c he (by rw [e]; rfl)), h.b.set hu (fun a n c he => (hn a n c he).2), ⟨h.ab.own, fun q hq a n c he hk => ?_⟩, h.ba⟩
 rcases List.mem_or_eq_of_mem_set hq with hq | hq
 ·exact h.ab.ms q hq a n c he hk
 ·subst hq
  exact (hn a n c he).1 hk
theorem AllI.nil (base : Nat) (W : World) : AllI base W (.slice none 0 0) [] := ⟨World.ownsRow_nil _ _ _ _, fun q hq => by simp at hq⟩
theorem Duo.nil (base : Nat) (W : World) : Duo base W (.slice none 0 0) (.slice none 0 0) [] [] := ⟨AllI.nil _ _, AllI.nil _ _, Apt.none _ _, Apt.none _ _⟩
theorem ints_none (W : World) : IntsAt W (.slice none 0 0) [] := IntsAt.of_owns (base := 0) (e := 3) (v := .slice none 0 0) (xs := []) (World.ownsRow_nil _ _ _ _)
end Go.Proofs.YtoohhefegfpipaaGreatDoor
