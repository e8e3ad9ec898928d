/- The reference's Packs: the best packs for more and more pieces. -/
import Derived.Test.YtpebafaigldldaaGreatDoorOtk
import Derived.Test.YtpebafaigldldaaGreatDoorObs
import Derived.Test.YtpebafaigldldaaGreatDoorOpm
import Derived.Test.YtpebafaigldldaaGreatDoorOaq
namespace Go.Proofs.YtpebafaigldldaaGreatDoor
open Go.RowKit
theorem better_lt (a b : Pk) : betterPk a b a.1.sum b.1.sum = ltPk a b := by
 unfold betterPk ltPk cmpPk
 by_cases h1 : a.2 = b.2
 ·have n1 : ¬ a.2 < b.2 := by omega
  have n2 : ¬ b.2 < a.2 := by omega
  rw [if_pos h1, if_neg n1, if_neg n2]
  by_cases h2 : a.1.sum = b.1.sum
  ·have n3 : ¬ a.1.sum < b.1.sum := by omega
   have n4 : ¬ b.1.sum < a.1.sum := by omega
   rw [if_pos h2, if_neg n3, if_neg n4]
  ·rw [if_neg h2]
   by_cases h3 : a.1.sum < b.1.sum
   ·rw [if_pos h3]; simp [h3]
   ·rw [if_neg h3, if_pos (show b.1.sum < a.1.sum by omega)]; simp [h3]
 ·rw [if_neg h1]
  by_cases h3 : a.2 < b.2
  ·rw [if_pos h3]; simp [h3]
  ·rw [if_neg h3, if_pos (show b.2 < a.2 by omega)]; simp [h3]
theorem ext_blockP {w w' : World} {B : Nat} {o : Obj} (h : Ext w w') (zb : w.heap[B]? = some o) : w'.heap[B]? = some o := (h.block (Array.getElem?_eq_some_iff.1 zb).1).trans zb
/-- Packs that are taken, in memory. -/
structure TkR where
 p : Pk
 v : Value
def tkC (r : TkR) : List Value := [r.v, .int .i64 r.p.1.sum, .int .i64 r.p.2]
theorem tk_len : ∀ rs : List TkR, (rs.flatMap tkC).length = rs.length * 3
 | [] => rfl
 | r :: rs => by rw [List.flatMap_cons, List.length_append, tk_len rs]; simp [tkC]; omega
theorem tk_at {rs : List TkR} {i : Nat} {r : TkR} (h : rs[i]? = some r) : (rs.flatMap tkC)[i * 3]? = some r.v ∧ (rs.flatMap tkC)[i * 3 + 1]? = some (.int .i64 r.p.1.sum) ∧ (rs.flatMap tkC)[i * 3 + 2]? = some (.int .i64 r.p.2) :=
 ⟨by rw [← Nat.add_zero (i * 3), flatMap_at tkC 3 (fun _ => rfl) rs i 0 r h (by omega)]; rfl, by rw [flatMap_at tkC 3 (fun _ => rfl) rs i 1 r h (by omega)]; rfl, by rw [flatMap_at tkC 3 (fun _ => rfl) rs i 2 r h (by omega)]; rfl⟩
structure BsI (base : Nat) (ks : List (Int × Int)) (K : Nat) (v : Value) (W : World) (rs : List TkR) : Prop where
 own : W.ownsRow base 52 3 v (K + 1) (rs.flatMap tkC)
 tab : rs.map TkR.p = tabPk ks K
 ms : ∀ r, r ∈ rs → OwnI W r.v r.p.1
theorem BsI.ext {base : Nat} {ks : List (Int × Int)} {K : Nat} {v : Value} {W W' : World} {rs : List TkR} (h : BsI base ks K v W rs) (x : Ext W W') : BsI base ks K v W' rs := ⟨owns_ext h.own x, h.tab, fun r hr => (h.ms r hr).ext x⟩
theorem tk_type : 52 ≠ 3 := by decide
theorem box_not {W : World} {q : Nat} {z0 z1 z2 : Value} (h : W.heap[q]? = some (.cells #[z0, z1, z2] 52)) : NotInts W (· = q) := by
 rintro j rfl cur fr he
 rw [h] at he
 injection he with he
 injection he with e1 e2 e3
 exact tk_type e2
/-- A store into a box of packs leaves the rows alone. -/
theorem BsI.touch {base : Nat} {ks : List (Int × Int)} {K : Nat} {v : Value} {W W' : World} {rs : List TkR} {q : Nat} (h : BsI base ks K v W rs) (x : Touch (· = q) W W') (hn : NotInts W (· = q)) (hq : v.ownBlock ≠ some q) : BsI base ks K v W' rs :=
 ⟨owns_touch h.own x (fun g hg he => hq (by rw [hg, he])), h.tab, fun r hr => (h.ms r hr).touch x hn⟩
/-- The packs that a box holds while the kinds are tried. -/
def NowP (W : World) (q : Nat) (cs : List Pk) : Prop := ∃ a n c m p, W.heap[q]? = some (.cells #[.slice a n c, .int .i64 m, .int .i64 p] 52) ∧ (cs = [] ∨ ∃ x : Pk, bestOf ltPk cs = some x ∧ m = x.1.sum ∧ p = x.2 ∧ OwnI W (.slice a n c) x.1)
theorem NowP.ext {W W' : World} {q : Nat} {cs : List Pk} (h : NowP W q cs) (x : Ext W W') : NowP W' q cs := by
 obtain ⟨a, n, c, m, p, h1, h2⟩ := h
 refine ⟨a, n, c, m, p, (x.block (Array.getElem?_eq_some_iff.1 h1).1).trans h1, ?_⟩
 rcases h2 with h2 | ⟨y, h3, h4, h5, h6⟩
 ·exact .inl h2
 ·exact .inr ⟨y, h3, h4, h5, h6.ext x⟩
def stepPk (y : Pk) : Option Pk → Pk
 | none => y
 | some x => if ltPk y x then y else x
theorem tab_succ (ks : List (Int × Int)) (n : Nat) : tabPk ks (n + 1) = tabPk ks n ++ [pkAt ks (n + 1)] := by
 have h := tab_at ks (n + 1) (n + 1) (Nat.le_refl _)
 have hl := tab_length ks n
 have e : tabPk ks (n + 1) = tabPk ks n ++ [(bestOf ltPk (candFrom (fun h => (tabPk ks n).getD (n + 1 - h.toNat) (zeroPk ks)) 0 ks)).getD (zeroPk ks)] := rfl
 rw [e, List.getElem?_append_right (by omega), hl] at h
 rw [e]
 simp only [Nat.sub_self, List.getElem?_cons_zero, Option.some.injEq] at h
 rw [h]
theorem E_takens : Elem Tryz.prog 144 52 3 40 (.agg #[.slice none 0 0, .int .i64 0, .int .i64 0]) := by
 obtain ⟨i, h1, h2, h3, h4⟩ := info_parts (show (Tryz.prog.info? 52).map (fun i => (i.zero, i.size, i.bytes)) = some (some (.agg #[.slice none 0 0, .int .i64 0, .int .i64 0]), 3, 40) by kernel_rfl)
 exact ⟨Tryz.underlying144, ⟨i, h1, h2, h3, h4⟩, rfl, by decide⟩
theorem price_le : ∀ {ks : List (Int × Int)} {c : List Int}, (∀ k, k ∈ ks → 0 ≤ k.2 ∧ k.2 ≤ 1000) → (∀ x, x ∈ c → 0 ≤ x) → priceOf ks c ≤ 1000 * c.sum
 | [], c, _, h => by have := sum_nonneg' h; simp [priceOf]; omega
 | _ :: _, [], _, _ => by simp [priceOf]
 | k :: ks, x :: c, hk, h => by
  have ih := price_le (ks := ks) (c := c) (fun q hq => hk q (by simp [hq])) (fun y hy => h y (by simp [hy]))
  have h1 : x * k.2 ≤ x * 1000 := Int.mul_le_mul_of_nonneg_left (hk k (by simp)).2 (h x (by simp))
  rw [List.sum_cons]
  simp only [priceOf]
  omega
theorem own_ne {W : World} {b g n c q : Nat} {xs : List Value} {z0 z1 z2 : Value} {l : Nat} (h : W.ownsRow b 3 1 (.slice (some ⟨g, 0, none⟩) n c) l xs) (hb : W.heap[q]? = some (.cells #[z0, z1, z2] 52)) : g ≠ q := by
 rcases h.2 with ⟨h', _⟩ | ⟨g', cap', cur, h', _, hg, _⟩
 ·cases h'
 ·cases h'
  intro e
  subst e
  rw [hg] at hb
  injection hb with hb
  injection hb with e1 e2 e3
  exact tk_type e2.symm
theorem ints_oneP (xs : List Int) : ∀ u, u ∈ xs.map (Value.int .i64) → u.oneCell' = true := fun u hu => by
 obtain ⟨x, _, rfl⟩ := List.mem_map.1 hu
 rfl
set_option maxRecDepth 100000 in
set_option maxHeartbeats 16000000 in
theorem rpacks_any (v : Value) (ks : List (Int × Int)) (N : Nat) (w : World) (hK : PacksB ks) (hN : N ≤ 600) (hv : RowOf packC w v ks) :
 Calls Tryz.prog 28 #[v, .int .i64 (N : Int)] w fun e w' => ∃ a c, e = .returned (.agg #[.slice a (pkAt ks N).1.length c, .int .i64 (pkAt ks N).1.sum, .int .i64 (pkAt ks N).2]) ∧ IntsAt w' (.slice a (pkAt ks N).1.length c) (pkAt ks N).1 ∧ Ext w w' := by
 have hmix : Tryz.prog.follows .mixedOrders = true := by kernel_rfl
 obtain ⟨la, lc, rfl, l1, l2, l3⟩ := RowOf.open2 (f := packC) (fun _ => rfl) hv
 have HL3 := Lib.hid l3
 have HK := Lib.hid hK
 have hk4 := hK.n4
 have hk1 := hK.n1
 clear l3 hv hK
 obtain ⟨W, hW⟩ : ∃ W, W = w.alloc (.cells #[.slice none 0 0, .int .i64 0, .int .i64 0] 52) := ⟨_, rfl⟩
 have hb4 : W.heap[w.heap.size]? = some (.cells #[.slice none 0 0, .int .i64 0, .int .i64 0] 52) := by rw [hW]; exact World.alloc_heap_new _ _
 have hx0 : Ext w W := by rw [hW]; exact (Ext.refl w).alloc _
 obtain ⟨jj, hj1, hj2, hj3, hj4⟩ := E_ints.info
 obtain ⟨w7, hrun7, hown7, hgr7⟩ := run_makeSlice_full (P := Tryz.prog) (w := W) W.heap.size 46 3 jj (.int .i64 0) 1 Tryz.underlying46 hj1 hj2 hj3 .i64 .i64 ks.length (by omega) (by rw [hj4]; omega) (by unfold maxLen; omega) (Nat.le_refl _)
 rw [madeCells_int, List.toList_toArray] at hown7
 have hx7 : Ext W w7 := Ext.grown (Ext.refl W) hgr7 (fun k h => by cases h)
 generalize hmm : W.heap.size = m at hrun7 hown7
 have hrow : BsI W.heap.size ks 0 (.slice (some ⟨w7.heap.size, 0, none⟩) 1 1) (w7.alloc (.cells #[.slice (some ⟨m, 0, none⟩) ks.length ks.length, .int .i64 0, .int .i64 0] 52)) [⟨zeroPk ks, .slice (some ⟨m, 0, none⟩) ks.length ks.length⟩] := by
  have hzs : (zeroPk ks).1.sum = 0 := by simp [zeroPk]
  refine ⟨?_, rfl, fun r hr => ?_⟩
  ·have h := World.ownsRow_lit (base := W.heap.size) (e := 52) (size := 3) w7 #[.slice (some ⟨m, 0, none⟩) ks.length ks.length, .int .i64 0, .int .i64 0] 1 (by have := hx7.size; omega) (by unfold maxLen; omega) rfl
   simp only [List.flatMap_cons, List.flatMap_nil, tkC, hzs]
   exact h
  ·rw [List.mem_singleton.1 hr]
   have h1 : OwnI w7 (.slice (some ⟨m, 0, none⟩) ks.length ks.length) (zeroPk ks).1 := OwnI.of (b := m) (by simpa [zeroPk] using hown7)
   exact h1.ext ((Ext.refl w7).alloc _)
 have HROW := Lib.hid hrow
 have HX := Lib.hid (hx7.alloc (.cells #[.slice (some ⟨m, 0, none⟩) ks.length ks.length, .int .i64 0, .int .i64 0] 52))
 have HX0 := Lib.hid hx0
 have HB4 := Lib.hid (fun W2 (h : Ext W W2) => ext_blockP h hb4)
 have HSZ := Lib.hid (show W.heap.size = w.heap.size + 1 by rw [hW]; simp)
 clear hrow hx7 hx0 hb4 hown7 hgr7 hj1 hj2 hj3 hj4 hmm
 go_enter Tryz.func28, Tryz.ntmps28
 go_upto_region 1 with fail
 rw [← hW]
 clear hW
 go_upto_region 2 with fail
 obtain ⟨W2, hW2⟩ : ∃ W2, W2 = w7.alloc (.cells #[.slice (some ⟨m, 0, none⟩) ks.length ks.length, .int .i64 0, .int .i64 0] 52) := ⟨_, rfl⟩
 rw [← hW2] at HROW HX ⊢
 generalize hgb : w7.heap.size = gb0 at *
 clear hW2 hrun7 hgb
 go_wp2
 go_loopw [5, 6] (fun bv n wr => ∃ (K gb cap : Nat) (rs : List TkR), K ≤ N ∧ n = .int .i64 ((K : Int) + 1) ∧ bv = .slice (some ⟨gb, 0, none⟩) (K + 1) cap ∧ Hid (BsI W.heap.size ks K (.slice (some ⟨gb, 0, none⟩) (K + 1) cap) wr rs) ∧ Ext W wr) (fun _ n _ => N + 1 - (intOf n).toNat)
 case atStart => exact ⟨0, gb0, 1, _, Nat.zero_le _, rfl, rfl, HROW.out, HX.out⟩
 case round =>
  clear HROW HX
  obtain ⟨K, gb, cap, rs, hKN, rfl, rfl, hbs, hx⟩ := hrel
  by_cases hlt : K < N
  ·have x1 : decide ((K : Int) + 1 ≤ (N : Int)) = true := by simp; omega
   obtain ⟨wo, rfl⟩ : ∃ wo : World, wo = wr := ⟨_, rfl⟩
   have HBS := Lib.hid hbs.out
   have HGB := Lib.hid (World.ownsRow.lt hbs.out.own gb rfl).2
   have HXO := Lib.hid hx
   have HPS := Lib.hid (pkAt_succ HK.out K)
   have HCL := Lib.hid (cand_length (fun h => pkAt ks (K + 1 - h.toNat)) ks 0)
   have HCG := Lib.hid (fun (j : Nat) (k : Int × Int) (h : ks[j]? = some k) => cand_get (fun h => pkAt ks (K + 1 - h.toNat)) ks 0 j k h)
   generalize candFrom (fun h => pkAt ks (K + 1 - h.toNat)) 0 ks = cs at HPS HCL HCG
   obtain ⟨Wq, hWq⟩ : ∃ Wq, Wq = wo.alloc (.cells #[.slice none 0 0, .int .i64 0, .int .i64 0] 52) := ⟨_, rfl⟩
   have hbq : Wq.heap[wo.heap.size]? = some (.cells #[.slice none 0 0, .int .i64 0, .int .i64 0] 52) := by rw [hWq]; exact World.alloc_heap_new _ _
   have hxq : Ext wo Wq := by rw [hWq]; exact (Ext.refl wo).alloc _
   have HBQ := Lib.hid (show NowP Wq wo.heap.size (cs.take 0) from ⟨_, _, _, _, _, hbq, .inl (by simp)⟩)
   have HXQ := Lib.hid hxq
   clear hbs hx hbq hxq
   go_upto_region 6 with fail
   rw [← hWq]
   clear hWq
   go_wp2
   go_loopw [8] (fun i wz => ∃ j : Nat, j ≤ ks.length ∧ i = .int .i64 (j : Int) ∧ Hid (NowP wz wo.heap.size (cs.take j)) ∧ Hid (BsI W.heap.size ks K (.slice (some ⟨gb, 0, none⟩) (K + 1) cap) wz rs) ∧ Ext wo wz) (fun i _ => ks.length - (intOf i).toNat)
   case atStart => exact ⟨0, Nat.zero_le _, rfl, HBQ.out, HBS.out.ext HXQ.out, HXQ.out⟩
   case round =>
    clear HBQ HXQ HBS
    obtain ⟨i, hi, rfl, hnow, hbs, hx⟩ := hrel
    by_cases hil : i < ks.length
    ·have z1 : decide ((i : Int) < (ks.length : Int)) = true := by simpa using hil
     obtain ⟨lb, lo, k, rfl, hk, c0, c1⟩ := HL3.out i hil
     have hka := HK.out.all k (List.mem_of_getElem? hk.out)
     obtain ⟨J, hJ⟩ : ∃ J : Nat, K + 1 - k.1.toNat = J := ⟨_, rfl⟩
     have hmx : max 0 ((K : Int) + 1 - k.1) = (J : Int) := by omega
     have hw1 : IntKind.i64.wrap ((K : Int) + 1 - k.1) = (K : Int) + 1 - k.1 := IntWalk.i64_in _ (by omega)
     have hJK : J ≤ K := by omega
     have htj := tab_at ks K J hJK
     rw [← hbs.out.tab, List.getElem?_map] at htj
     obtain ⟨r, hr, hrp⟩ : ∃ r, rs[J]? = some r ∧ r.p = pkAt ks J := by
      cases h : rs[J]? with
      | none => rw [h] at htj; cases htj
      | some r => rw [h] at htj; simp at htj; exact ⟨r, rfl, htj⟩
     have hcg := HCG.out i k hk.out
     simp only [Nat.zero_add] at hcg
     rw [hJ, ← hrp] at hcg
     have hpo := pk_ok HK.out J
     rw [← hrp] at hpo
     have hor := hbs.out.ms r (List.mem_of_getElem? hr)
     obtain ⟨ra, rn, rc, hrv⟩ := own_form hor
     obtain ⟨ra', rc', hre, -, -, -⟩ := hor.ints.open
     rw [hrv] at hre
     injection hre with e1 e2 e3
     subst e2
     clear e1 e3 ra' rc'
     obtain ⟨t0, t1, t2⟩ := tk_at hr
     rw [hrv] at t0 hor
     have hx0 := HX0.out.trans (HXO.out.trans hx)
     have m0 := hx0.cell c0
     have m1 := hx0.cell c1
     have b0 : wr.cell? ⟨gb, J * 3, none⟩ = some (.slice ra r.p.1.length rc) := by rw [hbs.out.own.cellAt (J * 3) (by omega)]; exact t0
     have b1 : wr.cell? ⟨gb, J * 3 + 1, none⟩ = some (.int .i64 r.p.1.sum) := by rw [hbs.out.own.cellAt (J * 3 + 1) (by omega)]; exact t1
     have b2 : wr.cell? ⟨gb, J * 3 + 2, none⟩ = some (.int .i64 r.p.2) := by rw [hbs.out.own.cellAt (J * 3 + 2) (by omega)]; exact t2
     have i1 : (0 : Int) ≤ (i : Int) := by omega
     have i2 : (i : Int) < (ks.length : Int) := by omega
     have i3 : (0 : Int) ≤ (J : Int) := by omega
     have i4 : (J : Int) < ((K : Int) + 1) := by omega
     have HNOW := Lib.hid hnow.out
     have HBSZ := Lib.hid hbs.out
     have HXZ := Lib.hid hx
     have HC01 := Lib.hid (And.intro c0 c1)
     have HCGI := Lib.hid hcg
     have HPO := Lib.hid hpo
     have HOR := Lib.hid hor
     have HKA := Lib.hid hka
     clear hnow hbs hx hx0 htj hcg hpo hor t0 t1 t2 hr hrp hrv hJ hka hk c0 c1
     go_upto_region 10 with fail
     obtain ⟨W9, hW9⟩ : ∃ W9, W9 = wr.alloc (.cells #[.slice ra r.p.1.length rc, .int .i64 r.p.1.sum, .int .i64 r.p.2] 52) := ⟨_, rfl⟩
     have hb9 : W9.heap[wr.heap.size]? = some (.cells #[.slice ra r.p.1.length rc, .int .i64 r.p.1.sum, .int .i64 r.p.2] 52) := by rw [hW9]; exact World.alloc_heap_new _ _
     have hx9 : Ext wr W9 := by rw [hW9]; exact (Ext.refl wr).alloc _
     have HX9 := Lib.hid hx9
     have HSS := Lib.hid (fun W2 (h : Ext W9 W2) => (⟨(cells3 (ext_blockP h hb9)).1.1, (cells3 (ext_blockP h hb9)).1.2.1, (cells3 (ext_blockP h hb9)).1.2.2, (HX0.out.trans (HXO.out.trans (HXZ.out.trans (hx9.trans h)))).cell HC01.out.2⟩ : _ ∧ _ ∧ _ ∧ _))
     have HR9 := Lib.hid (HOR.out.ext hx9).ints
     have hpl := HPO.out.tak.len
     have HPL := Lib.hid hpl
     have hps1 := HPO.out.many
     have hps0 := sum_nonneg' HPO.out.tak.pos
     have hpp := HPO.out.price
     have hpb : 0 ≤ r.p.2 ∧ r.p.2 ≤ 600000 := ⟨by rw [hpp]; exact (holds_nonneg (fun k hk => by have := HK.out.all k hk; omega) HPO.out.tak.pos).2, by rw [hpp]; have := price_le (ks := ks) (fun k hk => (HK.out.all k hk).2.2) HPO.out.tak.pos; omega⟩
     have HS9 := Lib.hid (show wr.heap.size + 1 ≤ W9.heap.size by rw [hW9]; simp)
     rw [← hW9]
     clear hW9 hb9 hx9 m0 m1 b0 b1 b2 hmx hw1 hpp
     have hka := HKA.out
     have HW5 := Lib.hid (IntWalk.i64_in (r.p.1.sum + 1) (by omega))
     have HW13 := Lib.hid (IntWalk.i64_in (r.p.2 + k.2) (by omega))
     clear hka hpb hps0 hps1 hpl
     go_cut [10] from 38 to 52 (fun s10 W1 => ∃ tb gc cp, s10 = .pointer (some ⟨tb, 0, none⟩) ∧ Ext W9 W1 ∧ Hid (W1.heap[tb]? = some (.cells #[.slice (some ⟨gc, 0, none⟩) r.p.1.length cp, .int .i64 (r.p.1.sum + 1), .int .i64 (r.p.2 + k.2)] 52)) ∧ W9.heap.size ≤ tb ∧ Hid (W1.ownsRow W9.heap.size 3 1 (.slice (some ⟨gc, 0, none⟩) r.p.1.length cp) r.p.1.length (r.p.1.map (.int .i64))))
     case first =>
      refine wp_region_held_drew (S := (fun W' => W'.cell? ⟨wr.heap.size, 0, none⟩ = some (.slice ra r.p.1.length rc) ∧ W'.cell? ⟨wr.heap.size, 1, none⟩ = some (.int .i64 r.p.1.sum) ∧ W'.cell? ⟨wr.heap.size, 2, none⟩ = some (.int .i64 r.p.2) ∧ W'.cell? ⟨lb, lo + i * 2 + 1, none⟩ = some (.int .i64 k.2))) (by kernel_rfl) ?_ (fun hHeld => ?_)
      · exact HSS.out _ (by repeat (first | exact Ext.refl _ | apply Ext.drew | apply Ext.alloc))
      refine held_take (i := 0) (d := some 38) (v := ?_) (by kernel_rfl) (by kernel_rfl) (by kernel_rfl) (by kernel_rfl) (fun _ _ _ h => h) (fun o ho => ?_) hHeld ?_
      rotate_left
      · simp only [List.getElem?_toArray, List.getElem?_cons_zero, Option.some.injEq] at ho
        subst ho
        refine ⟨by rfl, fun w hSw => ?_⟩
        (try dsimp only at hSw)
        go_simp
        try with_reducible rfl
      try simp only [Act.put, List.setIfInBounds_toArray, List.set_cons_zero, List.set_cons_succ]
      refine held_take (i := 1) (d := some 39) (v := ?_) (by kernel_rfl) (by kernel_rfl) (by kernel_rfl) (by kernel_rfl) (fun _ _ _ h => h) (fun o ho => ?_) hHeld ?_
      rotate_left
      · simp only [List.getElem?_toArray, List.getElem?_cons_zero, List.getElem?_cons_succ, Option.some.injEq] at ho
        subst ho
        refine ⟨by rfl, fun w hSw => ?_⟩
        (try dsimp only at hSw)
        go_simp
        try with_reducible rfl
      try simp only [Act.put, List.setIfInBounds_toArray, List.set_cons_zero, List.set_cons_succ]
      refine held_take (i := 3) (d := some 41) (v := ?_) (by kernel_rfl) (by kernel_rfl) (by kernel_rfl) (by kernel_rfl) (fun _ _ _ h => h) (fun o ho => ?_) hHeld ?_
      rotate_left
      · simp only [List.getElem?_toArray, List.getElem?_cons_zero, List.getElem?_cons_succ, Option.some.injEq] at ho
        subst ho
        refine ⟨by rfl, fun w hSw => ?_⟩
        (try dsimp only at hSw)
        go_simp
        try with_reducible rfl
      try simp only [Act.put, List.setIfInBounds_toArray, List.set_cons_zero, List.set_cons_succ]
      refine held_take (i := 4) (d := some 42) (v := ?_) (by kernel_rfl) (by kernel_rfl) (by kernel_rfl) (by kernel_rfl) (fun _ _ _ h => h) (fun o ho => ?_) hHeld ?_
      rotate_left
      · simp only [List.getElem?_toArray, List.getElem?_cons_zero, List.getElem?_cons_succ, Option.some.injEq] at ho
        subst ho
        refine ⟨by rfl, fun w hSw => ?_⟩
        (try dsimp only at hSw)
        go_simp
        try with_reducible rfl
      try simp only [Act.put, List.setIfInBounds_toArray, List.set_cons_zero, List.set_cons_succ]
      refine held_take (i := 5) (d := some 43) (v := ?_) (by kernel_rfl) (by kernel_rfl) (by kernel_rfl) (by kernel_rfl) (fun _ _ _ h => h) (fun o ho => ?_) hHeld ?_
      rotate_left
      · simp only [List.getElem?_toArray, List.getElem?_cons_zero, List.getElem?_cons_succ, Option.some.injEq] at ho
        subst ho
        refine ⟨by rfl, fun w hSw => ?_⟩
        (try dsimp only at hSw)
        go_simp
        try rw [HW5.out]
        try with_reducible rfl
      try simp only [Act.put, List.setIfInBounds_toArray, List.set_cons_zero, List.set_cons_succ]
      refine held_take (i := 6) (d := some 44) (v := ?_) (by kernel_rfl) (by kernel_rfl) (by kernel_rfl) (by kernel_rfl) (fun _ _ _ h => h) (fun o ho => ?_) hHeld ?_
      rotate_left
      · simp only [List.getElem?_toArray, List.getElem?_cons_zero, List.getElem?_cons_succ, Option.some.injEq] at ho
        subst ho
        refine ⟨by rfl, fun w hSw => ?_⟩
        (try dsimp only at hSw)
        go_simp
        try with_reducible rfl
      try simp only [Act.put, List.setIfInBounds_toArray, List.set_cons_zero, List.set_cons_succ]
      refine held_take (i := 7) (d := some 45) (v := ?_) (by kernel_rfl) (by kernel_rfl) (by kernel_rfl) (by kernel_rfl) (fun _ _ _ h => h) (fun o ho => ?_) hHeld ?_
      rotate_left
      · simp only [List.getElem?_toArray, List.getElem?_cons_zero, List.getElem?_cons_succ, Option.some.injEq] at ho
        subst ho
        refine ⟨by rfl, fun w hSw => ?_⟩
        (try dsimp only at hSw)
        go_simp
        try with_reducible rfl
      try simp only [Act.put, List.setIfInBounds_toArray, List.set_cons_zero, List.set_cons_succ]
      refine held_take (i := 8) (d := some 46) (v := ?_) (by kernel_rfl) (by kernel_rfl) (by kernel_rfl) (by kernel_rfl) (fun _ _ _ h => h) (fun o ho => ?_) hHeld ?_
      rotate_left
      · simp only [List.getElem?_toArray, List.getElem?_cons_zero, List.getElem?_cons_succ, Option.some.injEq] at ho
        subst ho
        refine ⟨by rfl, fun w hSw => ?_⟩
        (try dsimp only at hSw)
        go_simp
        try with_reducible rfl
      try simp only [Act.put, List.setIfInBounds_toArray, List.set_cons_zero, List.set_cons_succ]
      refine held_take (i := 9) (d := some 47) (v := ?_) (by kernel_rfl) (by kernel_rfl) (by kernel_rfl) (by kernel_rfl) (fun _ _ _ h => h) (fun o ho => ?_) hHeld ?_
      rotate_left
      · simp only [List.getElem?_toArray, List.getElem?_cons_zero, List.getElem?_cons_succ, Option.some.injEq] at ho
        subst ho
        refine ⟨by rfl, fun w hSw => ?_⟩
        (try dsimp only at hSw)
        go_simp
        try with_reducible rfl
      try simp only [Act.put, List.setIfInBounds_toArray, List.set_cons_zero, List.set_cons_succ]
      refine held_take (i := 10) (d := some 48) (v := ?_) (by kernel_rfl) (by kernel_rfl) (by kernel_rfl) (by kernel_rfl) (fun _ _ _ h => h) (fun o ho => ?_) hHeld ?_
      rotate_left
      · simp only [List.getElem?_toArray, List.getElem?_cons_zero, List.getElem?_cons_succ, Option.some.injEq] at ho
        subst ho
        refine ⟨by rfl, fun w hSw => ?_⟩
        (try dsimp only at hSw)
        go_simp
        try with_reducible rfl
      try simp only [Act.put, List.setIfInBounds_toArray, List.set_cons_zero, List.set_cons_succ]
      refine held_take (i := 11) (d := some 49) (v := ?_) (by kernel_rfl) (by kernel_rfl) (by kernel_rfl) (by kernel_rfl) (fun _ _ _ h => h) (fun o ho => ?_) hHeld ?_
      rotate_left
      · simp only [List.getElem?_toArray, List.getElem?_cons_zero, List.getElem?_cons_succ, Option.some.injEq] at ho
        subst ho
        refine ⟨by rfl, fun w hSw => ?_⟩
        (try dsimp only at hSw)
        go_simp
        try with_reducible rfl
      try simp only [Act.put, List.setIfInBounds_toArray, List.set_cons_zero, List.set_cons_succ]
      refine held_take (i := 12) (d := some 50) (v := ?_) (by kernel_rfl) (by kernel_rfl) (by kernel_rfl) (by kernel_rfl) (fun _ _ _ h => h) (fun o ho => ?_) hHeld ?_
      rotate_left
      · simp only [List.getElem?_toArray, List.getElem?_cons_zero, List.getElem?_cons_succ, Option.some.injEq] at ho
        subst ho
        refine ⟨by rfl, fun w hSw => ?_⟩
        (try dsimp only at hSw)
        go_simp
        try with_reducible rfl
      try simp only [Act.put, List.setIfInBounds_toArray, List.set_cons_zero, List.set_cons_succ]
      refine held_take (i := 13) (d := some 51) (v := ?_) (by kernel_rfl) (by kernel_rfl) (by kernel_rfl) (by kernel_rfl) (fun _ _ _ h => h) (fun o ho => ?_) hHeld ?_
      rotate_left
      · simp only [List.getElem?_toArray, List.getElem?_cons_zero, List.getElem?_cons_succ, Option.some.injEq] at ho
        subst ho
        refine ⟨by rfl, fun w hSw => ?_⟩
        (try dsimp only at hSw)
        go_simp
        try rw [HW13.out]
        try with_reducible rfl
      try simp only [Act.put, List.setIfInBounds_toArray, List.set_cons_zero, List.set_cons_succ]
      refine wpAnyH_ready (rs := [2, 15]) (by kernel_rfl) (by simp) ?_
      refine held_step (i := 2) (by kernel_rfl) (fun o ho K' hK => ?_) ?_
      · simp only [List.getElem?_toArray, List.getElem?_cons_zero, List.getElem?_cons_succ, Option.some.injEq] at ho
        subst ho
        have hlow : W9.heap.size ≤ W9.drew.heap.size := ((by repeat (first | exact Ext.refl _ | apply Ext.drew | apply Ext.alloc)) : Ext W9 W9.drew).size
        have hrow : RowAt W9.drew (.slice ra r.p.1.length rc) r.p.1.length (r.p.1.map (.int .i64)) := RowAt.ext HR9.out (by repeat (first | exact Ext.refl _ | apply Ext.drew | apply Ext.alloc))
        have hpl := HPL.out
        refine step_append_row E_ints (by rfl) _ _ (by rfl) W9.drew.heap.size (by rfl) (World.ownsRow_nil _ _ _ _) (by rfl) hrow (by simp) (ints_oneP _) (by unfold maxLen; omega) (by omega) (Nat.le_refl _) ?_
        intro v1 w1 own1 hgr1 _
        simp only [Nat.zero_add, List.nil_append] at own1
        have hx1 : Ext W9.drew w1 := Ext.grown (Ext.refl _) hgr1 (fun k hk => by cases hk)
        have hxe : Ext W9 w1 := ((by repeat (first | exact Ext.refl _ | apply Ext.drew | apply Ext.alloc)) : Ext W9 W9.drew).trans hx1
        have hpk := HK.out.n1
        obtain ⟨gc, cp, rfl, hgc1, hgc2⟩ := owns_some own1 (by omega)
        have HOW := Lib.hid (owns_lower own1 hlow)
        have HGC := Lib.hid hgc1
        clear hrow hgr1 own1 hpl hpk hgc1 hgc2
        refine hK.out _ _ ?_ (fun hHeld => ?_)
        · exact HSS.out _ (by repeat (first | exact hxe | exact Ext.refl _ | apply Ext.drew | apply Ext.alloc))
        clear hK K'
        refine held_take (i := 14) (d := some 52) (v := ?_) (by kernel_rfl) (by kernel_rfl) (by kernel_rfl) (by kernel_rfl) (fun _ _ _ h => h) (fun o ho => ?_) hHeld ?_
        rotate_left
        · simp only [List.getElem?_toArray, List.getElem?_cons_zero, List.getElem?_cons_succ, Option.some.injEq] at ho
          subst ho
          refine ⟨by rfl, fun w hSw => ?_⟩
          (try dsimp only at hSw)
          go_simp
          try with_reducible rfl
        try simp only [Act.put, List.setIfInBounds_toArray, List.set_cons_zero, List.set_cons_succ]
        refine wpAnyH_ready (rs := [15]) (by kernel_rfl) (by simp) ?_
        refine held_step (i := 15) (by kernel_rfl) (fun o ho K' hK => ?_) ?_
        · simp only [List.getElem?_toArray, List.getElem?_cons_zero, List.getElem?_cons_succ, Option.some.injEq] at ho
          subst ho
          go_simp
          refine hK.out _ _ ?_ (fun hHeld => ?_)
          · exact HSS.out _ (by repeat (first | exact hxe | exact Ext.refl _ | apply Ext.drew | apply Ext.alloc))
          clear hK K'
          try simp only [List.setIfInBounds_toArray, List.set_cons_zero, List.set_cons_succ]
          refine wpAnyH_ready (rs := [16]) (by kernel_rfl) (by simp) ?_
          refine held_step (i := 16) (by kernel_rfl) (fun o ho K' hK => ?_) ?_
          · simp only [List.getElem?_toArray, List.getElem?_cons_zero, List.getElem?_cons_succ, Option.some.injEq] at ho
            subst ho
            have hbz := World.alloc_heap_new w1 (.cells #[.slice none 0 0, .int .i64 0, .int .i64 0] 52)
            obtain ⟨⟨q0, q1, q2⟩, p0, p1, p2⟩ := cells3 hbz
            go_simp
            refine hK.out _ _ ?_ (fun hHeld => ?_)
            · exact HSS.out _ (by repeat (first | exact hxe | exact Ext.refl _ | apply Ext.drew | apply Ext.alloc))
            clear hK K'
            try simp only [List.setIfInBounds_toArray, List.set_cons_zero, List.set_cons_succ]
            refine wpAnyH_done (by kernel_rfl) ?_ _
            try simp only [List.setIfInBounds_toArray, List.set_cons_zero, List.set_cons_succ]
            clear hHeld
            clear q0 q1 q2 p0 p1 p2 hbz
            go_wp2_with fail
            go_meet
            case rel => exact ⟨_, gc, cp, rfl, hxe.alloc _, World.alloc_heap_new _ _, hxe.size, owns_ext HOW.out ((Ext.refl w1).alloc _)⟩
          exact AllReadyH.nil
        exact AllReadyH.nil
      refine held_step (i := 15) (by kernel_rfl) (fun o ho K' hK => ?_) ?_
      · simp only [List.getElem?_toArray, List.getElem?_cons_zero, List.getElem?_cons_succ, Option.some.injEq] at ho
        subst ho
        go_simp
        refine hK.out _ _ ?_ (fun hHeld => ?_)
        · exact HSS.out _ (by repeat (first | exact hxe | exact Ext.refl _ | apply Ext.drew | apply Ext.alloc))
        clear hK K'
        try simp only [List.setIfInBounds_toArray, List.set_cons_zero, List.set_cons_succ]
        refine wpAnyH_ready (rs := [2]) (by kernel_rfl) (by simp) ?_
        refine held_step (i := 2) (by kernel_rfl) (fun o ho K' hK => ?_) ?_
        · simp only [List.getElem?_toArray, List.getElem?_cons_zero, List.getElem?_cons_succ, Option.some.injEq] at ho
          subst ho
          have hlow : W9.heap.size ≤ (W9.drew.alloc (.cells #[.slice none 0 0, .int .i64 0, .int .i64 0] 52)).heap.size := ((by repeat (first | exact Ext.refl _ | apply Ext.drew | apply Ext.alloc)) : Ext W9 (W9.drew.alloc (.cells #[.slice none 0 0, .int .i64 0, .int .i64 0] 52))).size
          have hrow : RowAt (W9.drew.alloc (.cells #[.slice none 0 0, .int .i64 0, .int .i64 0] 52)) (.slice ra r.p.1.length rc) r.p.1.length (r.p.1.map (.int .i64)) := RowAt.ext HR9.out (by repeat (first | exact Ext.refl _ | apply Ext.drew | apply Ext.alloc))
          have hpl := HPL.out
          refine step_append_row E_ints (by rfl) _ _ (by rfl) (W9.drew.alloc (.cells #[.slice none 0 0, .int .i64 0, .int .i64 0] 52)).heap.size (by rfl) (World.ownsRow_nil _ _ _ _) (by rfl) hrow (by simp) (ints_oneP _) (by unfold maxLen; omega) (by omega) (Nat.le_refl _) ?_
          intro v1 w1 own1 hgr1 _
          simp only [Nat.zero_add, List.nil_append] at own1
          have hx1 : Ext (W9.drew.alloc (.cells #[.slice none 0 0, .int .i64 0, .int .i64 0] 52)) w1 := Ext.grown (Ext.refl _) hgr1 (fun k hk => by cases hk)
          have hxe : Ext W9 w1 := ((by repeat (first | exact Ext.refl _ | apply Ext.drew | apply Ext.alloc)) : Ext W9 (W9.drew.alloc (.cells #[.slice none 0 0, .int .i64 0, .int .i64 0] 52))).trans hx1
          have hpk := HK.out.n1
          obtain ⟨gc, cp, rfl, hgc1, hgc2⟩ := owns_some own1 (by omega)
          have HOW := Lib.hid (owns_lower own1 hlow)
          have HGC := Lib.hid hgc1
          clear hrow hgr1 own1 hpl hpk hgc1 hgc2
          refine hK.out _ _ ?_ (fun hHeld => ?_)
          · exact HSS.out _ (by repeat (first | exact hxe | exact Ext.refl _ | apply Ext.drew | apply Ext.alloc))
          clear hK K'
          refine held_take (i := 14) (d := some 52) (v := ?_) (by kernel_rfl) (by kernel_rfl) (by kernel_rfl) (by kernel_rfl) (fun _ _ _ h => h) (fun o ho => ?_) hHeld ?_
          rotate_left
          · simp only [List.getElem?_toArray, List.getElem?_cons_zero, List.getElem?_cons_succ, Option.some.injEq] at ho
            subst ho
            refine ⟨by rfl, fun w hSw => ?_⟩
            (try dsimp only at hSw)
            go_simp
            try with_reducible rfl
          try simp only [Act.put, List.setIfInBounds_toArray, List.set_cons_zero, List.set_cons_succ]
          refine wpAnyH_ready (rs := [16]) (by kernel_rfl) (by simp) ?_
          refine held_step (i := 16) (by kernel_rfl) (fun o ho K' hK => ?_) ?_
          · simp only [List.getElem?_toArray, List.getElem?_cons_zero, List.getElem?_cons_succ, Option.some.injEq] at ho
            subst ho
            have hbz : w1.heap[W9.heap.size]? = some (.cells #[.slice none 0 0, .int .i64 0, .int .i64 0] 52) := ext_blockP hx1 (World.alloc_heap_new W9.drew (.cells #[.slice none 0 0, .int .i64 0, .int .i64 0] 52))
            obtain ⟨⟨q0, q1, q2⟩, p0, p1, p2⟩ := cells3 hbz
            go_simp
            refine hK.out _ _ ?_ (fun hHeld => ?_)
            · exact HSS.out _ (((hxe.setCell (p := ⟨W9.heap.size, 0, none⟩) (Nat.le_refl _) _).setCell (p := ⟨W9.heap.size, 1, none⟩) (Nat.le_refl _) _).setCell (p := ⟨W9.heap.size, 2, none⟩) (Nat.le_refl _) _)
            clear hK K'
            try simp only [List.setIfInBounds_toArray, List.set_cons_zero, List.set_cons_succ]
            refine wpAnyH_done (by kernel_rfl) ?_ _
            try simp only [List.setIfInBounds_toArray, List.set_cons_zero, List.set_cons_succ]
            clear hHeld
            have hg9 := HGC.out
            rw [World.size_alloc] at hg9
            have HO3 := Lib.hid (ownsRow_setCell_other (ownsRow_setCell_other (ownsRow_setCell_other HOW.out (a := ⟨W9.heap.size, 0, none⟩) (by simp [Value.ownBlock]; have h9 : W9.drew.heap.size = W9.heap.size := rfl; omega) (.slice (some ⟨gc, 0, none⟩) r.p.1.length cp)) (a := ⟨W9.heap.size, 1, none⟩) (by simp [Value.ownBlock]; have h9 : W9.drew.heap.size = W9.heap.size := rfl; omega) (.int .i64 (r.p.1.sum + 1))) (a := ⟨W9.heap.size, 2, none⟩) (by simp [Value.ownBlock]; have h9 : W9.drew.heap.size = W9.heap.size := rfl; omega) (.int .i64 (r.p.2 + k.2)))
            have HX3 := Lib.hid ((((hxe.setCell (p := ⟨W9.heap.size, 0, none⟩) (Nat.le_refl _) _).setCell (p := ⟨W9.heap.size, 1, none⟩) (Nat.le_refl _) _).setCell (p := ⟨W9.heap.size, 2, none⟩) (Nat.le_refl _) _) : Ext W9 (((w1.setCell ⟨W9.heap.size, 0, none⟩ (.slice (some ⟨gc, 0, none⟩) r.p.1.length cp)).setCell ⟨W9.heap.size, 1, none⟩ (.int .i64 (r.p.1.sum + 1))).setCell ⟨W9.heap.size, 2, none⟩ (.int .i64 (r.p.2 + k.2))))
            have HB3 := Lib.hid (store3 hbz (.slice (some ⟨gc, 0, none⟩) r.p.1.length cp) (.int .i64 (r.p.1.sum + 1)) (.int .i64 (r.p.2 + k.2)))
            clear hg9 q0 q1 q2 p0 p1 p2 hbz
            go_wp2_with fail
            go_meet
            case rel => exact ⟨_, gc, cp, rfl, HX3.out, HB3.out, Nat.le_refl _, HO3.out⟩
          exact AllReadyH.nil
        exact AllReadyH.nil
      exact AllReadyH.nil
     case rest =>
      obtain ⟨tb, gc, cp, rfl, hx10, h10, htb, how⟩ := hcut
      obtain ⟨wd, rfl⟩ : ∃ wd : World, wd = wc := ⟨_, rfl⟩
      have hpl := HPL.out
      obtain ⟨ci, hci⟩ : ∃ ci, r.p.1[i]? = some ci := ⟨_, List.getElem?_eq_getElem (by omega)⟩
      have hgd : r.p.1.getD i 0 = ci := by rw [List.getD_eq_getElem?_getD, hci]; rfl
      have hc0 := HPO.out.tak.pos ci (List.mem_of_getElem? hci)
      have hc1 := le_sum' HPO.out.tak.pos (List.mem_of_getElem? hci)
      have hps1 := HPO.out.many
      have HW8 := Lib.hid (IntWalk.i64_in (ci + 1) (by omega))
      have hne := own_ne how.out h10.out
      obtain ⟨⟨g0, g1, g2⟩, -⟩ := cells3 h10.out
      have l0 : wd.cell? ⟨gc, i, none⟩ = some (.int .i64 ci) := by rw [how.out.cellAt i (by omega), List.getElem?_map, hci]; rfl
      have lf := how.out.frozenAt i
      have hgcl := owns_block how.out gc rfl
      have i5 : (i : Int) < (r.p.1.length : Int) := by omega
      have HY := Lib.hid (show (addPk i k.2 r.p).1 = r.p.1.set i (ci + 1) ∧ (addPk i k.2 r.p).1.sum = r.p.1.sum + 1 ∧ (addPk i k.2 r.p).2 = r.p.2 + k.2 from ⟨by unfold addPk; rw [hgd], by unfold addPk; exact sum_set (by omega), rfl⟩)
      have HNE := Lib.hid hne
      have HH10 := Lib.hid h10.out
      have HOWC := Lib.hid how.out
      have HGCL := Lib.hid (And.intro hgcl htb)
      have HX10 := Lib.hid (HX9.out.trans hx10)
      clear hpl hgd hc0 hc1 hps1 hci hne h10 how hgcl htb hx10 HSS HR9 HX9 HW5 HW13 HPO HOR
      go_upto_region 11 with fail
      refine wp_region_noPanic ?_
      refine wp_region_any (by kernel_rfl) (wpAny_of_till (z := 10) (S := (fun w' => w'.cell? ⟨tb, 0, none⟩ = some (.slice (some ⟨gc, 0, none⟩) r.p.1.length cp) ∧ w'.cell? ⟨gc, i, none⟩ = some (.int .i64 ci))) _ _ _ _ ?_)
      change wpTill _ _ _ _ _ _ _ _ _ wd.drew
      have hS0 := (show (World.drew wd).cell? ⟨tb, 0, none⟩ = some (.slice (some ⟨gc, 0, none⟩) r.p.1.length cp) ∧ (World.drew wd).cell? ⟨gc, i, none⟩ = some (.int .i64 ci) from ⟨g0, l0⟩)
      refine till_at (i := 0) (d := some 53) (v := ?_) (by kernel_rfl) (by kernel_rfl) (by kernel_rfl) (by kernel_rfl) (by kernel_rfl) (fun _ _ _ h => h) (fun o ho => ?_) hS0 ?_
      rotate_left
      · simp only [List.getElem?_toArray, List.getElem?_cons_zero, Option.some.injEq] at ho
        subst ho
        refine Or.inl ⟨by rfl, fun w' hSw => ?_⟩
        obtain ⟨hSw0, hSw1⟩ := hSw
        go_simp
        try with_reducible rfl
      try simp only [Act.put, List.setIfInBounds_toArray, List.set_cons_zero, List.set_cons_succ]
      refine till_at (i := 1) (d := some 54) (v := ?_) (by kernel_rfl) (by kernel_rfl) (by kernel_rfl) (by kernel_rfl) (by kernel_rfl) (fun _ _ _ h => h) (fun o ho => ?_) hS0 ?_
      rotate_left
      · simp only [List.getElem?_toArray, List.getElem?_cons_zero, List.getElem?_cons_succ, Option.some.injEq] at ho
        subst ho
        refine Or.inl ⟨by rfl, fun w' hSw => ?_⟩
        obtain ⟨hSw0, hSw1⟩ := hSw
        go_simp
        try with_reducible rfl
      try simp only [Act.put, List.setIfInBounds_toArray, List.set_cons_zero, List.set_cons_succ]
      refine till_at (i := 2) (d := some 55) (v := ?_) (by kernel_rfl) (by kernel_rfl) (by kernel_rfl) (by kernel_rfl) (by kernel_rfl) (fun _ _ _ h => h) (fun o ho => ?_) hS0 ?_
      rotate_left
      · simp only [List.getElem?_toArray, List.getElem?_cons_zero, List.getElem?_cons_succ, Option.some.injEq] at ho
        subst ho
        refine Or.inl ⟨by rfl, fun w' hSw => ?_⟩
        obtain ⟨hSw0, hSw1⟩ := hSw
        go_simp
        try with_reducible rfl
      try simp only [Act.put, List.setIfInBounds_toArray, List.set_cons_zero, List.set_cons_succ]
      refine till_at (i := 3) (d := some 56) (v := ?_) (by kernel_rfl) (by kernel_rfl) (by kernel_rfl) (by kernel_rfl) (by kernel_rfl) (fun _ _ _ h => h) (fun o ho => ?_) hS0 ?_
      rotate_left
      · simp only [List.getElem?_toArray, List.getElem?_cons_zero, List.getElem?_cons_succ, Option.some.injEq] at ho
        subst ho
        refine Or.inl ⟨by rfl, fun w' hSw => ?_⟩
        obtain ⟨hSw0, hSw1⟩ := hSw
        go_simp
        try with_reducible rfl
      try simp only [Act.put, List.setIfInBounds_toArray, List.set_cons_zero, List.set_cons_succ]
      refine till_at (i := 4) (d := some 57) (v := ?_) (by kernel_rfl) (by kernel_rfl) (by kernel_rfl) (by kernel_rfl) (by kernel_rfl) (fun _ _ _ h => h) (fun o ho => ?_) hS0 ?_
      rotate_left
      · simp only [List.getElem?_toArray, List.getElem?_cons_zero, List.getElem?_cons_succ, Option.some.injEq] at ho
        subst ho
        refine Or.inl ⟨by rfl, fun w' hSw => ?_⟩
        obtain ⟨hSw0, hSw1⟩ := hSw
        go_simp
        try with_reducible rfl
      try simp only [Act.put, List.setIfInBounds_toArray, List.set_cons_zero, List.set_cons_succ]
      refine till_at (i := 5) (d := some 58) (v := ?_) (by kernel_rfl) (by kernel_rfl) (by kernel_rfl) (by kernel_rfl) (by kernel_rfl) (fun _ _ _ h => h) (fun o ho => ?_) hS0 ?_
      rotate_left
      · simp only [List.getElem?_toArray, List.getElem?_cons_zero, List.getElem?_cons_succ, Option.some.injEq] at ho
        subst ho
        refine Or.inl ⟨by rfl, fun w' hSw => ?_⟩
        obtain ⟨hSw0, hSw1⟩ := hSw
        go_simp
        try with_reducible rfl
      try simp only [Act.put, List.setIfInBounds_toArray, List.set_cons_zero, List.set_cons_succ]
      refine till_at (i := 6) (d := some 59) (v := ?_) (by kernel_rfl) (by kernel_rfl) (by kernel_rfl) (by kernel_rfl) (by kernel_rfl) (fun _ _ _ h => h) (fun o ho => ?_) hS0 ?_
      rotate_left
      · simp only [List.getElem?_toArray, List.getElem?_cons_zero, List.getElem?_cons_succ, Option.some.injEq] at ho
        subst ho
        refine Or.inl ⟨by rfl, fun w' hSw => ?_⟩
        obtain ⟨hSw0, hSw1⟩ := hSw
        go_simp
        try with_reducible rfl
      try simp only [Act.put, List.setIfInBounds_toArray, List.set_cons_zero, List.set_cons_succ]
      refine till_at (i := 7) (d := some 60) (v := ?_) (by kernel_rfl) (by kernel_rfl) (by kernel_rfl) (by kernel_rfl) (by kernel_rfl) (fun _ _ _ h => h) (fun o ho => ?_) hS0 ?_
      rotate_left
      · simp only [List.getElem?_toArray, List.getElem?_cons_zero, List.getElem?_cons_succ, Option.some.injEq] at ho
        subst ho
        refine Or.inl ⟨by rfl, fun w' hSw => ?_⟩
        obtain ⟨hSw0, hSw1⟩ := hSw
        go_simp
        try with_reducible rfl
      try simp only [Act.put, List.setIfInBounds_toArray, List.set_cons_zero, List.set_cons_succ]
      refine till_at (i := 8) (d := some 61) (v := ?_) (by kernel_rfl) (by kernel_rfl) (by kernel_rfl) (by kernel_rfl) (by kernel_rfl) (fun _ _ _ h => h) (fun o ho => ?_) hS0 ?_
      rotate_left
      · simp only [List.getElem?_toArray, List.getElem?_cons_zero, List.getElem?_cons_succ, Option.some.injEq] at ho
        subst ho
        refine Or.inl ⟨by rfl, fun w' hSw => ?_⟩
        obtain ⟨hSw0, hSw1⟩ := hSw
        go_simp
        try rw [HW8.out]
        try with_reducible rfl
      try simp only [Act.put, List.setIfInBounds_toArray, List.set_cons_zero, List.set_cons_succ]
      refine till_at (i := 9) (d := some 62) (v := ?_) (by kernel_rfl) (by kernel_rfl) (by kernel_rfl) (by kernel_rfl) (by kernel_rfl) (fun _ _ _ h => h) (fun o ho => ?_) hS0 ?_
      rotate_left
      · simp only [List.getElem?_toArray, List.getElem?_cons_zero, List.getElem?_cons_succ, Option.some.injEq] at ho
        subst ho
        refine Or.inl ⟨by rfl, fun w' hSw => ?_⟩
        obtain ⟨hSw0, hSw1⟩ := hSw
        go_simp
        try with_reducible rfl
      try simp only [Act.put, List.setIfInBounds_toArray, List.set_cons_zero, List.set_cons_succ]
      refine till_step (i := 10) (by kernel_rfl) (by kernel_rfl) (fun o ho K' hK => ?_)
      simp only [List.getElem?_toArray, List.getElem?_cons_zero, List.getElem?_cons_succ, Option.some.injEq] at ho
      subst ho
      go_simp
      refine hK.out _ _ (fun h => absurd rfl h) (fun _ => ?_)
      clear hK K'
      try simp only [Act.put, List.setIfInBounds_toArray, List.set_cons_zero, List.set_cons_succ]
      refine till_done (by kernel_rfl) ?_ _
      refine NoPanic.normal ?_
      try simp only [Act.put, List.setIfInBounds_toArray, List.set_cons_zero, List.set_cons_succ]
      obtain ⟨W11, hW11⟩ : ∃ W11, W11 = (wd.setCell ⟨gc, i, none⟩ (.int .i64 (ci + 1))).drew := ⟨_, rfl⟩
      have hszr := HX10.out.size
      have hsz9 : wr.heap.size + 1 ≤ W9.heap.size := HS9.out
      have hx11 : Ext wr W11 := by rw [hW11]; exact (HX10.out.setCell (p := ⟨gc, i, none⟩) (show wr.heap.size ≤ gc by have := HGCL.out.1; omega) _).drew
      have h11 : W11.heap[tb]? = some (.cells #[.slice (some ⟨gc, 0, none⟩) r.p.1.length cp, .int .i64 (r.p.1.sum + 1), .int .i64 (r.p.2 + k.2)] 52) := by
       rw [hW11]; exact (Touch.setCell (M := (· = gc)) (a := ⟨gc, i, none⟩) (.int .i64 (ci + 1)) rfl).keep _ _ HH10.out (fun e => HNE.out e.symm)
      have hoy : OwnI W11 (.slice (some ⟨gc, 0, none⟩) r.p.1.length cp) (addPk i k.2 r.p).1 := by
       rw [HY.out.1]
       have h := (HOWC.out.stored i (.int .i64 (ci + 1))).1
       rw [← List.map_set] at h
       refine OwnI.of (b := W9.heap.size) ?_
       rw [List.length_set, hW11]
       exact owns_ext h (Ext.refl _).drew
      have HN11 := Lib.hid (HNOW.out.ext hx11)
      have HB11 := Lib.hid (HBSZ.out.ext hx11)
      have HO11 := Lib.hid hoy
      have HX11 := Lib.hid (HXZ.out.trans hx11)
      obtain ⟨⟨g0, g1, g2⟩, -⟩ := cells3 h11
      have HH11 := Lib.hid h11
      rw [← hW11]
      clear hW11 hszr hsz9 hx11 h11 hoy HNOW HBSZ HX10 HOWC HH10 HGCL HNE lf l0 HS9
      obtain ⟨na, nn, nc, nm, np, hnq, hnx⟩ := HN11.out
      have hqt : tb ≠ wo.heap.size → True := fun _ => trivial
      clear hqt
      obtain ⟨⟨q0, q1, q2⟩, p0, p1, p2⟩ := cells3 hnq
      have HQ := Lib.hid hnq
      have HSTEP := Lib.hid (fun (out : Option Pk) (h : bestOf ltPk (cs.take i) = out) => (show bestOf ltPk (cs.take (i + 1)) = some (stepPk (addPk i k.2 r.p) out) by
       rw [List.take_add_one, HCGI.out]
       have h9 := best_push ltPk (cs.take i) (addPk i k.2 r.p)
       rw [h] at h9
       cases out <;> exact h9))
      have HPUT : Hid (∀ W2, Ext W11 W2 → bestOf ltPk (cs.take (i + 1)) = some (addPk i k.2 r.p) → (let Wz := ((W2.setCell ⟨wo.heap.size, 0, none⟩ (.slice (some ⟨gc, 0, none⟩) r.p.1.length cp)).setCell ⟨wo.heap.size, 1, none⟩ (.int .i64 (r.p.1.sum + 1))).setCell ⟨wo.heap.size, 2, none⟩ (.int .i64 (r.p.2 + k.2)); NowP Wz wo.heap.size (cs.take (i + 1)) ∧ BsI W.heap.size ks K (.slice (some ⟨gb, 0, none⟩) (K + 1) cap) Wz rs ∧ Ext wo Wz)) := fun W2 h2 hb => by
       intro Wz
       have hq2 := ext_blockP h2 HQ.out
       have hT : Touch (· = wo.heap.size) W2 Wz := touch3 W2 wo.heap.size _ _ _
       refine ⟨⟨some ⟨gc, 0, none⟩, r.p.1.length, cp, r.p.1.sum + 1, r.p.2 + k.2, store3 hq2 _ _ _, .inr ⟨_, hb, HY.out.2.1.symm, HY.out.2.2.symm, (HO11.out.ext h2).touch hT (box_not hq2)⟩⟩, (HB11.out.ext h2).touch hT (box_not hq2) (fun h => by have := HGB.out; simp [Value.ownBlock] at h; omega), Touch.ext (HX11.out.trans h2) hT (fun j hj => by omega)⟩
      by_cases hi0 : i = 0
      ·have z2 : ((i : Int) == 0) = true := by simp [hi0]
       have HPU := Lib.hid (HPUT.out W11 (Ext.refl _) (HSTEP.out none (by subst hi0; rfl)))
       simp only at HPU
       clear hnx hnq HPUT HSTEP hi0
       go_wp2
       exact ⟨⟨i + 1, by omega, by go_num, HPU.out⟩, by simp [intOf]; omega⟩
      have z2 : ((i : Int) == 0) = false := by simpa using hi0
      obtain ⟨x, hxb, hxm, hxp, hxo⟩ : ∃ x : Pk, bestOf ltPk (cs.take i) = some x ∧ nm = x.1.sum ∧ np = x.2 ∧ OwnI W11 (.slice na nn nc) x.1 := by
       rcases hnx with h | h
       ·exfalso
        have h1 : (cs.take i).length = 0 := by rw [h]; rfl
        rw [List.length_take, HCL.out] at h1
        omega
       ·exact h
      have HBT := Lib.hid (show Calls Tryz.prog 31 #[.agg #[.slice (some ⟨gc, 0, none⟩) r.p.1.length cp, .int .i64 (r.p.1.sum + 1), .int .i64 (r.p.2 + k.2)], .agg #[.slice na nn nc, .int .i64 nm, .int .i64 np]] W11 fun e w' => e = .returned (.bool (ltPk (addPk i k.2 r.p) x)) ∧ Ext W11 w' by
       have h := rbetter_any (.slice (some ⟨gc, 0, none⟩) r.p.1.length cp) (.slice na nn nc) (addPk i k.2 r.p) x (addPk i k.2 r.p).1.sum x.1.sum W11 HO11.out.ints hxo.ints
       rw [better_lt, HY.out.2.1, ← hxm, ← hxp] at h
       exact h)
      have hst := HSTEP.out _ hxb
      have HXO2 := Lib.hid hxo
      have HXM := Lib.hid (And.intro hxm hxp)
      cases hlp : ltPk (addPk i k.2 r.p) x with
      | true =>
       rw [hlp] at HBT
       have HPU := Lib.hid (fun W2 (h : Ext W11 W2) => HPUT.out W2 h (by rw [hst]; simp [stepPk, hlp]))
       simp only at HPU
       clear hnx hnq HPUT HSTEP hi0 hlp hst hxb hxm hxp hxo
       go_wp2_with (go_at_call 31; refine HBT.out.mono ?_; rintro e w12 ⟨rfl, hx12⟩; obtain ⟨⟨g0, g1, g2⟩, -⟩ := cells3 (ext_blockP hx12 HH11.out); obtain ⟨⟨q0, q1, q2⟩, p0, p1, p2⟩ := cells3 (ext_blockP hx12 HQ.out))
       exact ⟨⟨i + 1, by omega, by go_num, HPU.out w12 hx12⟩, by simp [intOf]; omega⟩
      | false =>
       rw [hlp] at HBT
       have HPU := Lib.hid (show bestOf ltPk (cs.take (i + 1)) = some x by rw [hst]; simp [stepPk, hlp])
       clear hnx hnq HPUT HSTEP hi0 hlp hst hxb hxm hxp hxo
       go_wp2_with (go_at_call 31; refine HBT.out.mono ?_; rintro e w12 ⟨rfl, hx12⟩)
       exact ⟨⟨i + 1, by omega, by go_num, ⟨na, nn, nc, nm, np, ext_blockP hx12 HQ.out, .inr ⟨x, HPU.out, HXM.out.1, HXM.out.2, HXO2.out.ext hx12⟩⟩, HB11.out.ext hx12, HX11.out.trans hx12⟩, by simp [intOf]; omega⟩
    ·have z1 : decide ((i : Int) < (ks.length : Int)) = false := by simpa using hil
     have z2 : ¬ i < ks.length := hil
     have hie : cs.take i = cs := List.take_of_length_le (by have := HCL.out; omega)
     rw [hie] at hnow
     obtain ⟨na, nn, nc, nm, np, hnq, hnx⟩ := hnow.out
     obtain ⟨x, hxb, hxm, hxp, hxo⟩ : ∃ x : Pk, bestOf ltPk cs = some x ∧ nm = x.1.sum ∧ np = x.2 ∧ OwnI wr (.slice na nn nc) x.1 := by
      rcases hnx with h | h
      ·exfalso
       have h1 : cs.length = 0 := by rw [h]; rfl
       rw [HCL.out] at h1
       omega
      ·exact h
     obtain rfl : x = pkAt ks (K + 1) := by have h := hxb.symm.trans HPS.out; cases h; rfl
     obtain ⟨⟨q0, q1, q2⟩, -⟩ := cells3 hnq
     have HOWN := Lib.hid hbs.out.own
     have hw9 : IntKind.i64.wrap ((K : Int) + 1 + 1) = (K : Int) + 1 + 1 := IntWalk.i64_in _ (by omega)
     have HNEW : Hid (∀ (g cap' : Nat) (w' : World), w'.ownsRow W.heap.size 52 3 (.slice (some ⟨g, 0, none⟩) (K + 1 + 1) cap') (K + 1 + 1) (rs.flatMap tkC ++ [.slice na nn nc, .int .i64 nm, .int .i64 np]) → (wr.alloc (.cells #[.slice na nn nc, .int .i64 nm, .int .i64 np] 52)).grownBy w' (Value.slice (some ⟨gb, 0, none⟩) (K + 1) cap).ownBlock → BsI W.heap.size ks (K + 1) (.slice (some ⟨g, 0, none⟩) (K + 1 + 1) cap') w' (rs ++ [⟨pkAt ks (K + 1), .slice na nn nc⟩])) := fun g cap' w' ho hg => by
      have hxa : Ext wr (wr.alloc (.cells #[.slice na nn nc, .int .i64 nm, .int .i64 np] 52)) := (Ext.refl wr).alloc _
      have hT : Touch (fun j => (Value.slice (some ⟨gb, 0, none⟩) (K + 1) cap).ownBlock = some j) (wr.alloc (.cells #[.slice na nn nc, .int .i64 nm, .int .i64 np] 52)) w' := Touch.grown hg (fun k hk => hk)
      have hN := owns_not tk_type (owns_ext hbs.out.own hxa)
      refine ⟨?_, by rw [List.map_append, hbs.out.tab, tab_succ]; rfl, fun r hr => ?_⟩
      ·rw [List.flatMap_append]
       simp only [List.flatMap_cons, List.flatMap_nil, List.append_nil, tkC, ← hxm, ← hxp]
       exact ho
      ·rcases List.mem_append.1 hr with h | h
       ·exact ((hbs.out.ms r h).ext hxa).touch hT hN
       ·rw [List.mem_singleton.1 h]
        exact (hxo.ext hxa).touch hT hN
     have HXW := Lib.hid (HXO.out.trans hx)
     clear hie hnow hnq hnx hxb hxm hxp hxo hbs hx HPS HCL HCG
     go_wp2_with (at_builtin; refine wpList_push E_takens rfl _ _ rfl W.heap.size rfl HOWN.out rfl rfl (by simp [Value.oneCell']) ?_ (by unfold maxLen; omega) (by omega) (by have := HXW.out.size; omega); intro g2 cap2 w2 hown2 hext2 hgr2; have hx2 := hext2 W HXW.out (Nat.le_refl _); have HZ := Lib.hid (HNEW.out g2 cap2 w2 hown2 hgr2); clear hown2 hext2 hgr2)
     exact ⟨⟨K + 1, g2, cap2, _, by omega, by go_num, rfl, HZ.out, hx2⟩, by simp [intOf]; omega⟩
  ·have hKe : K = N := by omega
   subst hKe
   have x1 : decide ((K : Int) + 1 ≤ (K : Int)) = false := by simp; omega
   have htj := tab_at ks K K (Nat.le_refl _)
   rw [← hbs.out.tab, List.getElem?_map] at htj
   obtain ⟨r, hr, hrp⟩ : ∃ r, rs[K]? = some r ∧ r.p = pkAt ks K := by
    cases h : rs[K]? with
    | none => rw [h] at htj; cases htj
    | some r => rw [h] at htj; simp at htj; exact ⟨r, rfl, htj⟩
   have hor := hbs.out.ms r (List.mem_of_getElem? hr)
   obtain ⟨ra, rn, rc, hrv⟩ := own_form hor
   obtain ⟨ra', rc', hre, -, -, -⟩ := hor.ints.open
   rw [hrv] at hre
   injection hre with e1 e2 e3
   subst e2
   clear e1 e3 ra' rc'
   obtain ⟨t0, t1, t2⟩ := tk_at hr
   rw [hrv] at t0 hor
   rw [hrp] at t0 t1 t2 hor
   have b0 : wr.cell? ⟨gb, K * 3, none⟩ = some (.slice ra (pkAt ks K).1.length rc) := by rw [hbs.out.own.cellAt (K * 3) (by omega)]; exact t0
   have b1 : wr.cell? ⟨gb, K * 3 + 1, none⟩ = some (.int .i64 (pkAt ks K).1.sum) := by rw [hbs.out.own.cellAt (K * 3 + 1) (by omega)]; exact t1
   have b2 : wr.cell? ⟨gb, K * 3 + 2, none⟩ = some (.int .i64 (pkAt ks K).2) := by rw [hbs.out.own.cellAt (K * 3 + 2) (by omega)]; exact t2
   have i3 : (0 : Int) ≤ (K : Int) := by omega
   have i4 : (K : Int) < ((K : Int) + 1) := by omega
   have h4 := HB4.out _ hx
   obtain ⟨⟨q0, q1, q2⟩, p0, p1, p2⟩ := cells3 h4
   have HH4 := Lib.hid h4
   have HOR := Lib.hid hor
   have HXF := Lib.hid (HX0.out.trans hx)
   clear hr hrp hrv hor htj t0 t1 t2 hbs hx h4
   go_wp2
   try simp only [Exit.inBlock, Exit.then]
   refine bodyPost_ret (results_cell_row rfl _ _ w.heap.size _ _ _ _ rfl (store3 HH4.out _ _ _) Tryz.underlying52 rfl (by kernel_rfl)) rfl ?_
   have hT := touch3 wr w.heap.size (.slice ra (pkAt ks K).1.length rc) (.int .i64 (pkAt ks K).1.sum) (.int .i64 (pkAt ks K).2)
   exact ⟨ra, rc, rfl, (HOR.out.touch hT (box_not HH4.out)).ints, Touch.ext HXF.out hT (fun j hj => by omega)⟩
end Go.Proofs.YtpebafaigldldaaGreatDoor
