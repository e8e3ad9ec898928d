/- The reference's among: the cheapest pieces from some sellers. -/
import Derived.Test.YtpebafaigldldaaGreatDoorOrh
import Derived.Test.YtpebafaigldldaaGreatDoorObs
import Derived.Test.YtpebafaigldldaaGreatDoorOpr
namespace Go.Proofs.YtpebafaigldldaaGreatDoor
open Go.RowKit
/-- A plan in blocks of its own. -/
structure PlnI (base m : Nat) (W : World) (v : Value) (rbs : List Nat) (rows : List (List Int)) : Prop where
 own : W.ownsRow base 46 1 v rbs.length (rbs.map fun b => Value.slice (some ⟨b, 0, none⟩) m m)
 len : rows.length = rbs.length
 row : ∀ (i b : Nat) (r : List Int), rbs[i]? = some b → rows[i]? = some r → r.length = m ∧ W.ownsRow base 3 1 (.slice (some ⟨b, 0, none⟩) m m) m (r.map (.int .i64))
 nd : rbs.Nodup
theorem ints_type : 46 ≠ 3 := by decide
theorem PlnI.ne {base m : Nat} {W : World} {v : Value} {rbs : List Nat} {rows : List (List Int)} (h : PlnI base m W v rbs rows) {b : Nat} (hb : b ∈ rbs) : v.ownBlock ≠ some b ∧ base ≤ b ∧ b < W.heap.size := by
 obtain ⟨i, hi⟩ := List.getElem?_of_mem hb
 have hl := (List.getElem?_eq_some_iff.1 hi).1
 have h1 := (h.row i b (rows[i]'(by rw [h.len]; exact hl)) hi (by simp)).2
 exact ⟨fun e => owns_apart h.own h1 ints_type b e rfl, owns_block h1 b rfl, (World.ownsRow.lt h1 b rfl).2⟩
theorem PlnI.ext {base m : Nat} {W W' : World} {v : Value} {rbs : List Nat} {rows : List (List Int)} (h : PlnI base m W v rbs rows) (k : Ext W W') : PlnI base m W' v rbs rows :=
 ⟨owns_ext h.own k, h.len, fun i b r hi hr => ⟨(h.row i b r hi hr).1, owns_ext (h.row i b r hi hr).2 k⟩, h.nd⟩
theorem PlnI.set {base m : Nat} {W : World} {v : Value} {rbs : List Nat} {rows : List (List Int)} (h : PlnI base m W v rbs rows) {i b g : Nat} {r : List Int} (hi : rbs[i]? = some b) (hr : rows[i]? = some r) (u : Int) :
 PlnI base m (W.setCell ⟨b, g, none⟩ (.int .i64 u)) v rbs (rows.set i (r.set g u)) := by
 have hT : Touch (fun j => j = b) W (W.setCell ⟨b, g, none⟩ (.int .i64 u)) := Touch.setCell _ rfl
 have hbm := List.mem_of_getElem? hi
 refine ⟨owns_touch h.own hT (fun q hq e => (h.ne hbm).1 (by rw [hq, e])), by rw [List.length_set]; exact h.len, fun j c q hj hq => ?_, h.nd⟩
 by_cases hij : i = j
 ·subst hij
  rw [hi] at hj
  cases hj
  rw [List.getElem?_set_self (List.getElem?_eq_some_iff.1 hr).1] at hq
  cases hq
  have h1 := h.row i b r hi hr
  refine ⟨by rw [List.length_set]; exact h1.1, ?_⟩
  rw [List.map_set]
  exact (h1.2.stored g (.int .i64 u)).1
 ·rw [List.getElem?_set_ne hij] at hq
  have h1 := h.row j c q hj hq
  refine ⟨h1.1, owns_touch h1.2 hT (fun x hx => by
   cases hx
   intro e
   have e1 := (List.getElem?_eq_some_iff.1 hj).2
   have e2 := (List.getElem?_eq_some_iff.1 hi).2
   exact hij ((List.getElem_inj h.nd).1 (by rw [e1, e2]; exact e.symm)))⟩
/-- One row more, of zeros: made, then pushed. -/
theorem PlnI.push {base m b : Nat} {W W5 W6 : World} {v v' : Value} {rbs : List Nat} {rows : List (List Int)} {ds : Array Value} {e' : TypeId} (h : PlnI base m W v rbs rows) (k : Ext W W5) (hb : W.heap.size ≤ b) (hbs : base ≤ W.heap.size)
 (ho : W5.ownsRow W.heap.size 3 1 (.slice (some ⟨b, 0, none⟩) m m) m ((List.replicate m (0 : Int)).map (.int .i64)))
 (hown : W6.ownsRow base 46 1 v' (rbs.length + 1) ((rbs.map fun b => Value.slice (some ⟨b, 0, none⟩) m m) ++ [.slice (some ⟨b, 0, none⟩) m m])) (hg : (W5.alloc (.cells ds e')).grownBy W6 v.ownBlock) :
 PlnI base m W6 v' (rbs ++ [b]) (rows ++ [List.replicate m 0]) := by
 have k5 := h.ext k
 have hxa : Ext W5 (W5.alloc (.cells ds e')) := (Ext.refl W5).alloc _
 have ka := k5.ext hxa
 have hT : Touch (fun j => v.ownBlock = some j) (W5.alloc (.cells ds e')) W6 := Touch.grown hg (fun k hk => hk)
 refine ⟨by simpa using hown, by simp [h.len], fun i c r hi hr => ?_, ?_⟩
 ·by_cases hil : i < rbs.length
  ·rw [List.getElem?_append_left hil] at hi
   rw [List.getElem?_append_left (by rw [h.len]; exact hil)] at hr
   obtain ⟨r1, r2⟩ := ka.row i c r hi hr
   exact ⟨r1, owns_touch r2 hT (fun q hq e => by cases hq; exact (ka.ne (List.mem_of_getElem? hi)).1 e)⟩
  ·have hie : i = rbs.length := by have := (List.getElem?_eq_some_iff.1 hi).1; simp at this; omega
   subst hie
   rw [List.getElem?_append_right (Nat.le_refl _)] at hi
   rw [List.getElem?_append_right (by rw [h.len]; exact Nat.le_refl _), h.len] at hr
   simp at hi hr
   subst hi hr
   refine ⟨by simp, owns_touch (owns_ext (owns_lower ho hbs) hxa) hT (fun q hq e => ?_)⟩
   cases hq
   have := (World.ownsRow.lt h.own b e).2
   omega
 ·rw [List.nodup_append]
  exact ⟨h.nd, by simp, fun x hx y hy e => by
   simp at hy
   subst hy e
   have := (h.ne hx).2.2
   omega⟩
theorem owns_block_of {W : World} {base size n c l : Nat} {e : TypeId} {a : Option Addr} {xs : List Value} (h : W.ownsRow base e size (.slice a n c) l xs) (hn : n ≠ 0) : ∃ g, a = some ⟨g, 0, none⟩ := by
 rcases h.2 with ⟨h', _⟩ | ⟨g', cap', cur, h', _⟩
 ·injection h' with h1 h2 h3
  exact absurd h2 hn
 ·injection h' with h1
  exact ⟨g', h1⟩
theorem PlnI.at {base m n cap vb i : Nat} {W : World} {rbs : List Nat} {rows : List (List Int)} {r : List Int} (h : PlnI base m W (.slice (some ⟨vb, 0, none⟩) n cap) rbs rows) (hr : rows[i]? = some r) :
 ∃ rb, rbs[i]? = some rb ∧ base ≤ rb ∧ W.cell? ⟨vb, i, none⟩ = some (.slice (some ⟨rb, 0, none⟩) m m) ∧ r.length = m ∧ ∀ (g : Nat) (x : Int), r[g]? = some x → W.cell? ⟨rb, g, none⟩ = some (.int .i64 x) ∧ W.frozen? ⟨rb, g, none⟩ = false := by
 have hi : i < rbs.length := by rw [← h.len]; exact (List.getElem?_eq_some_iff.1 hr).1
 obtain ⟨_, _, hv, _⟩ := owns_some h.own (by omega)
 cases hv
 have hb : rbs[i]? = some (rbs[i]'hi) := List.getElem?_eq_getElem hi
 have h1 := h.row i _ r hb hr
 refine ⟨rbs[i]'hi, hb, (h.ne (List.mem_of_getElem? hb)).2.1, ?_, h1.1, fun g x hg => ⟨?_, h1.2.frozenAt g⟩⟩
 ·rw [h.own.cellAt i (by omega), List.getElem?_map, hb]; rfl
 ·have hgl := (List.getElem?_eq_some_iff.1 hg).1
  rw [h1.2.cellAt g (by have := h1.1; omega), List.getElem?_map, hg]; rfl
theorem planCol_cell {ls : List Seller} {wants : List Int} {set G i : Nat} {c r : List Int} (hi : i < ls.length) (hG : G < wants.length) (h : (planCol ls wants set G c)[i]? = some r) : r[G]? = some (c.getD i 0) := by
 rw [planCol_at hi] at h
 cases h
 rw [List.getElem?_map, List.getElem?_range hG]
 simp
theorem PlnI.rows_at {base m n cap vb : Nat} {W : World} {rbs : List Nat} {rows : List (List Int)} (h : PlnI base m W (.slice (some ⟨vb, 0, none⟩) n cap) rbs rows) : IntRowsAt W (.slice (some ⟨vb, 0, none⟩) n cap) rows := by
 refine ⟨(rbs.map fun b => Value.slice (some ⟨b, 0, none⟩) m m).zip rows, ?_, ?_, fun x hx => ?_⟩
 ·rw [List.map_snd_zip]; rw [List.length_map, h.len]; exact Nat.le_refl _
 ·have hr := RowAt.of_owns h.own
  unfold RowOf
  rw [flat_one2, List.map_fst_zip (by rw [List.length_map, h.len]; exact Nat.le_refl _), List.length_zip, List.length_map, h.len, Nat.min_self]
  exact hr
 ·obtain ⟨i, hi⟩ := List.getElem?_of_mem hx
  rw [List.getElem?_zip_eq_some] at hi
  obtain ⟨h1, h2⟩ := hi
  rw [List.getElem?_map] at h1
  cases hb : rbs[i]? with
  | none => rw [hb] at h1; cases h1
  | some b =>
   rw [hb] at h1
   have h3 := h.row i b x.2 hb h2
   have h4 : x.1 = Value.slice (some ⟨b, 0, none⟩) m m := (Option.some.inj h1).symm
   rw [h4]
   have h5 := h3.2
   rw [← h3.1] at h5 ⊢
   exact IntsAt.of_owns h5
/-- One of the goods, seller by seller. -/
theorem SellersAt.col {w : World} {la : Option Addr} {lc G : Nat} {ls : List Seller} {wants : List Int} (hS : SellersB ls wants) (hl : SellersAt w (.slice la ls.length lc) ls) (hG : G < wants.length) :
 ∃ b o, la = some ⟨b, o, none⟩ ∧ ∀ i, i < ls.length → ∃ qb qo sn sc rb ro pn pc, w.cell? ⟨b, o + i * 3 + 1, none⟩ = some (.slice (some ⟨qb, qo, none⟩) sn sc) ∧ G < sn ∧ w.cell? ⟨qb, qo + G, none⟩ = some (.int .i64 ((stocksOf ls G).getD i 0)) ∧
  w.cell? ⟨b, o + i * 3 + 2, none⟩ = some (.slice (some ⟨rb, ro, none⟩) pn pc) ∧ G < pn ∧ w.cell? ⟨rb, ro + G, none⟩ = some (.int .i64 ((pricesOf ls G).getD i 0)) := by
 obtain ⟨_, _, hve, _, _, h3⟩ := hl.open
 cases hve
 obtain ⟨b, o, _, _, _, _, _, ha, _⟩ := h3 0 hS.l1
 refine ⟨b, o, ha, fun i hi => ?_⟩
 obtain ⟨b', o', s, sa, sc, pa, pc, ha', hs, _, c1, c2, is, ip⟩ := h3 i hi
 rw [ha] at ha'
 cases ha'
 have hso := hS.one s (List.mem_of_getElem? hs.out)
 obtain ⟨_, _, hve, _, _, p3⟩ := ip.open
 cases hve
 obtain ⟨qb, qo, x, hpa, hx, hc⟩ := p3 G (by omega)
 obtain ⟨_, _, hve, _, _, s3⟩ := is.open
 cases hve
 obtain ⟨rb, ro, y, hsa, hy, hd⟩ := s3 G (by omega)
 subst hpa hsa
 refine ⟨rb, ro, _, _, qb, qo, _, _, c1, by omega, ?_, c2, by omega, ?_⟩
 ·rw [hd]
  unfold stocksOf
  rw [List.getD_eq_getElem?_getD, List.getElem?_map, hs.out]
  show _ = some (Value.int .i64 (s.stock.getD G 0))
  rw [List.getD_eq_getElem?_getD, hy.out]; rfl
 ·rw [hc]
  unfold pricesOf
  rw [List.getD_eq_getElem?_getD, List.getElem?_map, hs.out]
  show _ = some (Value.int .i64 (s.price.getD G 0))
  rw [List.getD_eq_getElem?_getD, hx.out]; rfl
def atV : Option Nat → Int
 | none => -1
 | some a => (a : Int)
theorem pick_no {P : List Int} {cand : Nat → Bool} {k : Nat} (h : cand k = false) : pickTo P cand (k + 1) = pickTo P cand k := by
 show (match pickTo P cand k with | none => if cand k then some k else none | some a => if cand k && decide (P.getD k 0 ≤ P.getD a 0) then some k else some a) = _
 rw [h]
 cases pickTo P cand k <;> rfl
theorem pick_new {P : List Int} {cand : Nat → Bool} {k : Nat} (h : cand k = true) (hp : pickTo P cand k = none) : pickTo P cand (k + 1) = some k := by
 show (match pickTo P cand k with | none => if cand k then some k else none | some a => if cand k && decide (P.getD k 0 ≤ P.getD a 0) then some k else some a) = _
 rw [hp, h]; rfl
theorem pick_on {P : List Int} {cand : Nat → Bool} {k a : Nat} (h : cand k = true) (hp : pickTo P cand k = some a) : pickTo P cand (k + 1) = if P.getD k 0 ≤ P.getD a 0 then some k else some a := by
 show (match pickTo P cand k with | none => if cand k then some k else none | some a => if cand k && decide (P.getD k 0 ≤ P.getD a 0) then some k else some a) = _
 rw [hp, h]; simp
theorem pick_lt {P : List Int} {cand : Nat → Bool} {k a : Nat} (hp : pickTo P cand k = some a) : a < k := by
 have h := pick_spec P cand k
 rw [hp] at h
 exact h.1
theorem sel_zero {P S : List Int} {n set : Nat} (hS : ∀ i, 0 ≤ S.getD i 0) {F : List Int × Int} {c : List Int} (h : SelP S set (orderL P n set) F 0 c) : F = (c, 0) := by
 obtain ⟨pre, o', _, _, h2, rfl⟩ := h
 exact greedy_end hS h2
theorem stock_bd {ls : List Seller} {wants : List Int} (hS : SellersB ls wants) (G i : Nat) : 0 ≤ (stocksOf ls G).getD i 0 ∧ (stocksOf ls G).getD i 0 ≤ 100 := by
 unfold stocksOf
 rw [List.getD_eq_getElem?_getD, List.getElem?_map]
 cases hs : ls[i]? with
 | none => simp
 | some s =>
  simp only [Option.map_some, Option.getD_some]
  rw [List.getD_eq_getElem?_getD]
  cases hx : s.stock[G]? with
  | none => simp
  | some x => exact (hS.one s (List.mem_of_getElem? hs)).2.2.2.1 x (List.mem_of_getElem? hx)
def AmongRes (ls : List Seller) (wants : List Int) (set : Nat) (w : World) (e : Ending) (w' : World) : Prop :=
 Ext w w' ∧ ((fromB ls wants set = none ∧ e = .returned (.tuple #[.slice none 0 0, .bool false])) ∨ ∃ p b c, fromB ls wants set = some p ∧ e = .returned (.tuple #[.slice (some ⟨b, 0, none⟩) p.length c, .bool true]) ∧ IntRowsAt w' (.slice (some ⟨b, 0, none⟩) p.length c) p)
set_option maxRecDepth 100000 in
set_option maxHeartbeats 16000000 in
theorem among_any (lv wv : Value) (ls : List Seller) (wants : List Int) (set : Nat) (w : World) (hS : SellersB ls wants) (hset : set ≤ 16) (hl : SellersAt w lv ls) (hw : IntsAt w wv wants) :
 Calls Tryz.prog 89 #[lv, wv, .int .i64 (set : Int)] w (AmongRes ls wants set w) := by
 have hmix : Tryz.prog.follows .mixedOrders = true := by kernel_rfl
 obtain ⟨la, lc, rfl, hl1, hl2, hl3⟩ := hl.open
 obtain ⟨wa, wc, rfl, hw1, hw2, hw3⟩ := hw.open
 have HL3 := Lib.hid hl3
 have HW3 := Lib.hid hw3
 have HS := Lib.hid hS
 have HLX := Lib.hid hl
 have HCO := Lib.hid (fun G hG => hl.col (G := G) hS hG)
 have hn4 := hS.l4
 have hn1 := hS.l1
 have hm5 := hS.w5
 have hm1 := hS.w1
 clear hl hw hl3 hw3 hS
 obtain ⟨jj, hj1, hj2, hj3, hj4⟩ := E_ints.info
 have HMK := Lib.hid (fun W => run_makeSlice_full (P := Tryz.prog) (w := W) W.heap.size 46 3 jj (.int .i64 0) 1 Tryz.underlying46 hj1 hj2 hj3 .i64 .i64 wants.length (by omega) (by rw [hj4]; omega) (by unfold maxLen; omega) (Nat.le_refl _))
 clear hj1 hj2 hj3 hj4
 go_enter Tryz.func89, Tryz.ntmps89
 go_wp2
 go_loopw [8, 9] (fun pv i wr => ∃ (k : Nat) (a : Option Addr) (c : Nat) (rbs : List Nat), k ≤ ls.length ∧ i = .int .i64 (k : Int) ∧ pv = .slice a k c ∧ rbs.length = k ∧ Hid (PlnI w.heap.size wants.length wr (.slice a k c) rbs (List.replicate k (List.replicate wants.length 0))) ∧ Ext w wr) (fun _ i _ => ls.length - (intOf i).toNat)
 case atStart => exact ⟨0, none, 0, [], Nat.zero_le _, rfl, rfl, rfl, ⟨World.ownsRow_nil _ _ _ _, rfl, fun i b r h => by simp at h, List.nodup_nil⟩, Ext.refl _⟩
 case round =>
  obtain ⟨k, a, c, rbs, hk, rfl, rfl, hrl, hpl, hx⟩ := hrel
  by_cases hlt : k < ls.length
  ·have x1 : decide ((k : Int) < (ls.length : Int)) = true := by simpa using hlt
   obtain ⟨wo, rfl⟩ : ∃ wo : World, wo = wr := ⟨_, rfl⟩
   obtain ⟨w7, hrun7, hown7, hgr7⟩ := HMK.out wo
   rw [madeCells_int, List.toList_toArray] at hown7
   have hx7 : Ext wo w7 := Ext.grown (Ext.refl wo) hgr7 (fun k h => by cases h)
   have HOWN := Lib.hid (owns_ext hpl.out.own hx7)
   have HX7 := Lib.hid hx7
   have HXW := Lib.hid hx
   rw [hrl] at HOWN
   have HNEW : Hid (∀ (g cap' : Nat) (w' : World), w'.ownsRow w.heap.size 46 1 (.slice (some ⟨g, 0, none⟩) (k + 1) cap') (k + 1) ((rbs.map fun b => Value.slice (some ⟨b, 0, none⟩) wants.length wants.length) ++ [.slice (some ⟨wo.heap.size, 0, none⟩) wants.length wants.length]) → (w7.alloc (.cells #[.slice (some ⟨wo.heap.size, 0, none⟩) wants.length wants.length] 46)).grownBy w' (Value.slice a k c).ownBlock → PlnI w.heap.size wants.length w' (.slice (some ⟨g, 0, none⟩) (k + 1) cap') (rbs ++ [wo.heap.size]) (List.replicate (k + 1) (List.replicate wants.length 0))) := fun g cap' w' ho hg => by
    have h := hpl.out.push (b := wo.heap.size) (v' := .slice (some ⟨g, 0, none⟩) (k + 1) cap') hx7 (Nat.le_refl _) hx.size hown7 (by rw [hrl]; exact ho) hg
    rwa [← List.replicate_succ'] at h
   have HRL := Lib.hid hrl
   clear hpl hx hx7 hown7 hgr7 hrl
   go_wp2_with (at_builtin; refine wpList_push E_intss2 rfl _ _ rfl w.heap.size rfl HOWN.out rfl rfl (by simp [Value.oneCell']) ?_ (by unfold maxLen; omega) (by omega) (by have := HXW.out.size; have := HX7.out.size; omega); intro g2 cap2 w2 hown2 hext2 hgr2; have hx2 := hext2 w (HXW.out.trans HX7.out) (Nat.le_refl _); have HZ := Lib.hid (HNEW.out g2 cap2 w2 hown2 hgr2); clear hown2 hext2 hgr2)
   exact ⟨⟨k + 1, _, cap2, rbs ++ [wo.heap.size], by omega, by go_num, rfl, by rw [List.length_append, HRL.out]; rfl, HZ.out, hx2⟩, by simp [intOf]; omega⟩
  ·have x1 : decide ((k : Int) < (ls.length : Int)) = false := by simpa using hlt
   have hke : k = ls.length := by omega
   subst hke
   have hpl0 : PlnI w.heap.size wants.length wr (.slice a ls.length c) rbs (planCol ls wants set 0 (List.replicate ls.length 0)) := by rw [planCol_zero]; exact hpl.out
   obtain ⟨vb, rfl⟩ := owns_block_of hpl0.own (by omega)
   have HRL := Lib.hid hrl
   have HPL := Lib.hid hpl0
   have HX := Lib.hid hx
   have HVB := Lib.hid (owns_block hpl0.own vb rfl)
   clear hpl hpl0 hx hrl hk hlt x1
   go_wp2
   clear HMK
   obtain ⟨wp, rfl⟩ : ∃ wp : World, wp = wr := ⟨_, rfl⟩
   go_loopw [10] (fun j wr => ∃ G : Nat, G ≤ wants.length ∧ j = .int .i64 (G : Int) ∧ Hid (shortTo ls wants set G = false) ∧ Hid (PlnI w.heap.size wants.length wr (.slice (some ⟨vb, 0, none⟩) ls.length c) rbs (planCol ls wants set G (List.replicate ls.length 0))) ∧ Ext w wr) (fun j _ => wants.length - (intOf j).toNat)
   case atStart => exact ⟨0, Nat.zero_le _, rfl, by simp [Hid, shortTo], HPL.out, HX.out⟩
   case round =>
    obtain ⟨G, hG, rfl, hsh, hpl, hx⟩ := hrel
    by_cases hlt : G < wants.length
    ·obtain ⟨wb, wo, lf0, rfl, hwk, d0⟩ := HW3.out G hlt
     have d1 := hx.cell d0
     have hlb := HS.out.want lf0 (List.mem_of_getElem? hwk.out)
     have hwD : wants.getD G 0 = lf0 := by rw [List.getD_eq_getElem?_getD, hwk.out]; rfl
     have x1 : decide ((G : Int) < (wants.length : Int)) = true := by simpa using hlt
     have i1 : (0 : Int) ≤ (G : Int) := by omega
     have i2 : (G : Int) < (wants.length : Int) := by omega
     obtain ⟨lb, lo, rfl, hcol⟩ := HCO.out G hlt
     have HCOL := Lib.hid hcol
     have HSH := Lib.hid hsh.out
     have HPL1 := Lib.hid hpl.out
     have HX1 := Lib.hid hx
     have HBD := Lib.hid hlb
     have HWK := Lib.hid hwk.out
     obtain ⟨P, hP⟩ : ∃ P, pricesOf ls G = P := ⟨_, rfl⟩
     obtain ⟨S, hSS⟩ : ∃ S, stocksOf ls G = S := ⟨_, rfl⟩
     obtain ⟨F, hF⟩ : ∃ F, colB ls set G (wants.getD G 0) = F := ⟨_, rfl⟩
     have hfs : greedyL S (orderL P ls.length set) lf0 (List.replicate ls.length 0) = F := by rw [← hF, hwD, ← hP, ← hSS]; rfl
     have HFS := Lib.hid hfs
     have HF := Lib.hid hF
     have HSB := Lib.hid (fun i => by have h := stock_bd HS.out G i; rwa [hSS] at h)
     rw [hP, hSS] at HCOL
     clear hcol hsh hpl hx hlb hwk hwD d0 hfs hF hP hSS
     go_wp2
     clear d1
     obtain ⟨wq, rfl⟩ : ∃ wq : World, wq = wr := ⟨_, rfl⟩
     go_loopw [11] (fun o wz => ∃ (lf : Int) (cc : List Int), o = .int .i64 lf ∧ 0 ≤ lf ∧ lf ≤ 400 ∧ Hid (cc.length = ls.length) ∧ Hid (SelP S set (orderL P ls.length set) F lf cc) ∧ Hid (PlnI w.heap.size wants.length wz (.slice (some ⟨vb, 0, none⟩) ls.length c) rbs (planCol ls wants set G cc)) ∧ Ext w wz) (fun o _ => (intOf o).toNat)
     case atStart => exact ⟨lf0, _, rfl, HBD.out.1, HBD.out.2, by simp [Hid], by rw [← HFS.out]; exact sel_start lf0, HPL1.out, HX1.out⟩
     case round =>
      obtain ⟨lf, cc, rfl, hl0, hl4, hcl, hsel, hpl, hx⟩ := hrel
      by_cases hlf : 0 < lf
      ·have x2 : decide (0 < lf) = true := by simpa using hlf
       have HCL := Lib.hid hcl.out
       have HSEL := Lib.hid hsel.out
       have HPL2 := Lib.hid hpl.out
       have HX2 := Lib.hid hx
       clear hcl hsel hpl hx
       go_wp2
       obtain ⟨wz, rfl⟩ : ∃ wz : World, wz = wr := ⟨_, rfl⟩
       go_loopw [12, 13] (fun av j wr => ∃ k : Nat, k ≤ ls.length ∧ j = .int .i64 (k : Int) ∧ av = .int .i64 (atV (pickTo P (candB S set cc) k)) ∧ Ext wz wr) (fun _ j _ => ls.length - (intOf j).toNat)
       case atStart => exact ⟨0, Nat.zero_le _, rfl, rfl, Ext.refl _⟩
       case round =>
        obtain ⟨k, hk, rfl, rfl, hx⟩ := hrel
        by_cases hlt3 : k < ls.length
        ·have x3 : decide ((k : Int) < (ls.length : Int)) = true := by simpa using hlt3
         have i3 : (0 : Int) ≤ (k : Int) := by omega
         have i4 : (k : Int) < (ls.length : Int) := by omega
         obtain ⟨r, hr⟩ : ∃ r, (planCol ls wants set G cc)[k]? = some r := ⟨_, planCol_at hlt3⟩
         obtain ⟨rb, _, _, e0, _, e1⟩ := HPL2.out.at hr
         have e1 := (e1 G _ (planCol_cell hlt3 hlt hr)).1
         obtain ⟨qb, qo, sn, sc, pb, po, pn, pc, s1, hs2, s3, p1, hp2, p3⟩ := HCOL.out k hlt3
         have i5 : (G : Int) < (sn : Int) := by omega
         have i6 : (G : Int) < (pn : Int) := by omega
         have HFX := Lib.hid (fun (W1 : World) (h : Ext wr W1) => (⟨(hx.trans h).cell e0, (hx.trans h).cell e1, (HX2.out.trans (hx.trans h)).cell s1, (HX2.out.trans (hx.trans h)).cell s3, (HX2.out.trans (hx.trans h)).cell p1, (HX2.out.trans (hx.trans h)).cell p3⟩ : _ ∧ _ ∧ _ ∧ _ ∧ _ ∧ _))
         have HHA := Lib.hid (fun W1 => rhas_any set k W1 (by omega) (by omega))
         have HCA := Lib.hid (show candB S set cc k = (set.testBit k && (cc.getD k 0 == 0) && decide (0 < S.getD k 0)) from rfl)
         have HX3 := Lib.hid hx
         have HPX := Lib.hid (fun a (ha : a < ls.length) => HCOL.out a ha)
         generalize cc.getD k 0 = x at HFX HCA
         generalize S.getD k 0 = y at HFX HCA
         clear hr e0 e1 s1 s3 p1 p3 hs2 hp2 hx
         cases hb : set.testBit k with
         | false =>
          rw [hb] at HHA HCA
          have HP := Lib.hid (congrArg atV (pick_no (P := P) (cand := candB S set cc) (k := k) (by rw [HCA.out]; rfl)))
          generalize atV (pickTo P (candB S set cc) k) = A at HP ⊢
          clear hb HCA HPX
          go_upto_region 15 with fail
          refine region_reads (C := fun W => Ext wr W) (by kernel_rfl) (by kernel_rfl) ((Ext.refl wr).drew) ?_
          repeat (first | go_big_quiet_skip | (go_big_quiet_want; go_big_quiet_op; first | go_big_quiet_on | (refine ⟨_, fun W hW => rfl, ?_⟩; go_big_quiet_on)) | (go_big_quiet_want; refine ⟨?_, fun W hW => ?_, ?_⟩; rotate_left; (· (obtain ⟨f0, f1, g1, g2, g3, g4⟩ := HFX.out W hW; go_simp; (first | with_reducible rfl | (go_at_call 135; refine (HHA.out _).mono ?_; rintro e w' ⟨rfl, rfl⟩; constructor; with_reducible rfl; exact hW)))); (try simp only [Act.put, yA, yB, yC]); go_big_quiet_on))
          refine wpQuiet_nil ?_
          intro wq' hq
          go_wp2
          exact ⟨⟨k + 1, by omega, by go_num, by rw [HP.out], HX3.out.trans hq⟩, by simp [intOf]; omega⟩
         | true =>
         rw [hb] at HHA HCA
         clear hb
         by_cases hx0 : x = 0
         ·subst hx0
          by_cases hy0 : 0 < y
          ·have hcand : candB S set cc k = true := by rw [HCA.out]; simpa using hy0
           have y0 : decide (0 < y) = true := by simpa using hy0
           cases hpk : pickTo P (candB S set cc) k with
           | none =>
            have HP := Lib.hid (pick_new hcand hpk)
            clear hcand hpk HCA HPX
            have hav : atV none = -1 := rfl
            rw [hav]
            clear hav
            go_upto_region 15 with fail
            refine region_reads (C := fun W => Ext wr W) (by kernel_rfl) (by kernel_rfl) ((Ext.refl wr).drew) ?_
            repeat (first | go_big_quiet_skip | (go_big_quiet_want; go_big_quiet_op; first | go_big_quiet_on | (refine ⟨_, fun W hW => rfl, ?_⟩; go_big_quiet_on)) | (go_big_quiet_want; refine ⟨?_, fun W hW => ?_, ?_⟩; rotate_left; (· (obtain ⟨f0, f1, g1, g2, g3, g4⟩ := HFX.out W hW; go_simp; (first | with_reducible rfl | (go_at_call 135; refine (HHA.out _).mono ?_; rintro e w' ⟨rfl, rfl⟩; constructor; with_reducible rfl; exact hW)))); (try simp only [Act.put, yA, yB, yC]); go_big_quiet_on))
            refine wpQuiet_nil ?_
            intro wq' hq
            go_wp2
            exact ⟨⟨k + 1, by omega, by go_num, by rw [HP.out]; rfl, HX3.out.trans hq⟩, by simp [intOf]; omega⟩
           | some a =>
            have HP := Lib.hid (pick_on hcand hpk)
            have hak := pick_lt hpk
            have hal : a < ls.length := by omega
            obtain ⟨_, _, _, _, ab, ao, an, ac, _, _, _, q1, hq2, q3⟩ := HPX.out a hal
            have HFY := Lib.hid (fun (W1 : World) (h : Ext wr W1) => (⟨HFX.out W1 h, (HX2.out.trans (HX3.out.trans h)).cell q1, (HX2.out.trans (HX3.out.trans h)).cell q3⟩ : _ ∧ _ ∧ _))
            have i7 : (G : Int) < (an : Int) := by omega
            have i8 : (0 : Int) ≤ (a : Int) := by omega
            have i9 : (a : Int) < (ls.length : Int) := by omega
            have x5 : decide ((a : Int) < 0) = false := by simp
            have hav : atV (some a) = (a : Int) := rfl
            rw [hav]
            generalize P.getD k 0 = u1 at HFY HP
            generalize P.getD a 0 = u2 at HFY HP
            clear hcand hpk HCA HPX HFX q1 hq2 q3 hav hak
            by_cases hle : u1 ≤ u2
            ·have x6 : decide (u1 ≤ u2) = true := by simpa using hle
             rw [if_pos hle] at HP
             go_upto_region 15 with fail
             refine region_reads (C := fun W => Ext wr W) (by kernel_rfl) (by kernel_rfl) ((Ext.refl wr).drew) ?_
             repeat (first | go_big_quiet_skip | (go_big_quiet_want; go_big_quiet_op; first | go_big_quiet_on | (refine ⟨_, fun W hW => rfl, ?_⟩; go_big_quiet_on)) | (go_big_quiet_want; refine ⟨?_, fun W hW => ?_, ?_⟩; rotate_left; (· (obtain ⟨⟨f0, f1, g1, g2, g3, g4⟩, g5, g6⟩ := HFY.out W hW; go_simp; (first | with_reducible rfl | (go_at_call 135; refine (HHA.out _).mono ?_; rintro e w' ⟨rfl, rfl⟩; constructor; with_reducible rfl; exact hW)))); (try simp only [Act.put, yA, yB, yC]); go_big_quiet_on))
             refine wpQuiet_nil ?_
             intro wq' hq
             go_wp2
             exact ⟨⟨k + 1, by omega, by go_num, by rw [HP.out]; rfl, HX3.out.trans hq⟩, by simp [intOf]; omega⟩
            ·have x6 : decide (u1 ≤ u2) = false := by simpa using hle
             rw [if_neg hle] at HP
             go_upto_region 15 with fail
             refine region_reads (C := fun W => Ext wr W) (by kernel_rfl) (by kernel_rfl) ((Ext.refl wr).drew) ?_
             repeat (first | go_big_quiet_skip | (go_big_quiet_want; go_big_quiet_op; first | go_big_quiet_on | (refine ⟨_, fun W hW => rfl, ?_⟩; go_big_quiet_on)) | (go_big_quiet_want; refine ⟨?_, fun W hW => ?_, ?_⟩; rotate_left; (· (obtain ⟨⟨f0, f1, g1, g2, g3, g4⟩, g5, g6⟩ := HFY.out W hW; go_simp; (first | with_reducible rfl | (go_at_call 135; refine (HHA.out _).mono ?_; rintro e w' ⟨rfl, rfl⟩; constructor; with_reducible rfl; exact hW)))); (try simp only [Act.put, yA, yB, yC]); go_big_quiet_on))
             refine wpQuiet_nil ?_
             intro wq' hq
             go_wp2
             exact ⟨⟨k + 1, by omega, by go_num, by rw [HP.out]; rfl, HX3.out.trans hq⟩, by simp [intOf]; omega⟩
          ·have y0 : decide (0 < y) = false := by simpa using hy0
           have HP := Lib.hid (congrArg atV (pick_no (P := P) (cand := candB S set cc) (k := k) (by rw [HCA.out, y0, Bool.and_false])))
           generalize atV (pickTo P (candB S set cc) k) = A at HP ⊢
           clear HCA HPX
           go_upto_region 15 with fail
           refine region_reads (C := fun W => Ext wr W) (by kernel_rfl) (by kernel_rfl) ((Ext.refl wr).drew) ?_
           repeat (first | go_big_quiet_skip | (go_big_quiet_want; go_big_quiet_op; first | go_big_quiet_on | (refine ⟨_, fun W hW => rfl, ?_⟩; go_big_quiet_on)) | (go_big_quiet_want; refine ⟨?_, fun W hW => ?_, ?_⟩; rotate_left; (· (obtain ⟨f0, f1, g1, g2, g3, g4⟩ := HFX.out W hW; go_simp; (first | with_reducible rfl | (go_at_call 135; refine (HHA.out _).mono ?_; rintro e w' ⟨rfl, rfl⟩; constructor; with_reducible rfl; exact hW)))); (try simp only [Act.put, yA, yB, yC]); go_big_quiet_on))
           refine wpQuiet_nil ?_
           intro wq' hq
           go_wp2
           exact ⟨⟨k + 1, by omega, by go_num, by rw [HP.out], HX3.out.trans hq⟩, by simp [intOf]; omega⟩
         ·have HP := Lib.hid (congrArg atV (pick_no (P := P) (cand := candB S set cc) (k := k) (by rw [HCA.out, beq_eq_false_iff_ne.2 hx0]; rfl)))
          have y2 : (x == 0) = false := beq_eq_false_iff_ne.2 hx0
          have y1 : decide (x = 0) = false := by simpa using hx0
          generalize atV (pickTo P (candB S set cc) k) = A at HP ⊢
          clear HCA HPX
          go_upto_region 15 with fail
          refine region_reads (C := fun W => Ext wr W) (by kernel_rfl) (by kernel_rfl) ((Ext.refl wr).drew) ?_
          repeat (first | go_big_quiet_skip | (go_big_quiet_want; go_big_quiet_op; first | go_big_quiet_on | (refine ⟨_, fun W hW => rfl, ?_⟩; go_big_quiet_on)) | (go_big_quiet_want; refine ⟨?_, fun W hW => ?_, ?_⟩; rotate_left; (· (obtain ⟨f0, f1, g1, g2, g3, g4⟩ := HFX.out W hW; go_simp; (first | with_reducible rfl | (go_at_call 135; refine (HHA.out _).mono ?_; rintro e w' ⟨rfl, rfl⟩; constructor; with_reducible rfl; exact hW)))); (try simp only [Act.put, yA, yB, yC]); go_big_quiet_on))
          refine wpQuiet_nil ?_
          intro wq' hq
          go_wp2
          exact ⟨⟨k + 1, by omega, by go_num, by rw [HP.out], HX3.out.trans hq⟩, by simp [intOf]; omega⟩
        ·have x3 : decide ((k : Int) < (ls.length : Int)) = false := by simpa using hlt3
         have hke : k = ls.length := by omega
         subst hke
         have HX3 := Lib.hid (HX2.out.trans hx)
         have hplx := HPL2.out.ext hx
         clear hx
         cases hpk : pickTo P (candB S set cc) ls.length with
         | none =>
          have hf := sel_none (fun i => (HSB.out i).1) hlf HSEL.out hpk
          have hsx := shortTo_succ ls wants set G
          rw [HF.out, HSH.out, Bool.false_or, hf] at hsx
          have HZ := Lib.hid (from_none (show G + 1 ≤ wants.length by omega) (by rw [hsx]; exact x2))
          have hav : atV none = -1 := rfl
          rw [hav]
          clear hf hsx hav hpk hplx
          go_wp2
          go_ret2
          exact ⟨HX3.out, .inl ⟨HZ.out, rfl⟩⟩
         | some i =>
          obtain ⟨hi, hci, hst, hnew⟩ := sel_some (fun i => (HSB.out i).1) HCL.out hlf HSEL.out hpk
          have hsb := HSB.out i
          obtain ⟨r, hr⟩ : ∃ r, (planCol ls wants set G cc)[i]? = some r := ⟨_, planCol_at hi⟩
          obtain ⟨rb, hrb, hrbb, e0, _, e1⟩ := hplx.at hr
          obtain ⟨e1, e2⟩ := e1 G _ (planCol_cell hi hlt hr)
          obtain ⟨qb, qo, sn, sc, _, _, _, _, s1, hs2, s3, _⟩ := HCOL.out i hi
          have i5 : (G : Int) < (sn : Int) := by omega
          have c1 := HX3.out.cell s1
          have c2 := HX3.out.cell s3
          have i3 : (0 : Int) ≤ (i : Int) := by omega
          have i4 : (i : Int) < (ls.length : Int) := by omega
          have x5 : decide ((i : Int) < 0) = false := by simp
          obtain ⟨mn, hmn⟩ : ∃ mn, min lf (S.getD i 0) = mn := ⟨_, rfl⟩
          have hmb : 0 < mn ∧ mn ≤ lf := by omega
          have hset := hplx.set hrb hr mn (g := G)
          rw [planCol_set mn hi HCL.out hr] at hset
          rw [hmn] at hnew
          generalize S.getD i 0 = y at c2 hmn hst hsb
          have HSET := Lib.hid hset
          have HNEW := Lib.hid hnew
          have HXS := Lib.hid (HX3.out.setCell (p := ⟨rb, G, none⟩) hrbb (.int .i64 mn))
          have HCLS := Lib.hid (show (cc.set i mn).length = ls.length by rw [List.length_set]; exact HCL.out)
          have hwl : IntKind.i64.wrap (lf - mn) = lf - mn := IntWalk.i64_in _ (by omega)
          have hav : atV (some i) = (i : Int) := rfl
          rw [hav]
          clear hplx hr hrb hrbb s1 s3 hs2 hset hnew hav hpk hci hsb hst
          go_wp2
          exact ⟨⟨lf - mn, _, rfl, by omega, by omega, HCLS.out, HNEW.out, HSET.out, HXS.out⟩, by simp [intOf]; omega⟩
      ·have x2 : decide (0 < lf) = false := by simpa using hlf
       have hz : lf = 0 := by omega
       subst hz
       have hf := sel_zero (fun i => (HSB.out i).1) hsel.out
       have hsx := shortTo_succ ls wants set G
       rw [HF.out, HSH.out, Bool.false_or, hf] at hsx
       have hnx := planCol_next ls wants set G
       rw [HF.out, hf] at hnx
       have HZ := Lib.hid (show shortTo ls wants set (G + 1) = false by rw [hsx]; simp)
       have hpl2 := hpl.out
       simp only at hnx
       rw [hnx] at hpl2
       have HPLN := Lib.hid hpl2
       have HX2 := Lib.hid hx
       clear hcl hsel hpl hpl2 hx hf hsx hnx
       go_wp2
       exact ⟨⟨G + 1, by omega, by go_num, HZ.out, HPLN.out, HX2.out⟩, by simp [intOf]; omega⟩
    ·have hge : G = wants.length := by omega
     subst hge
     have hp := hpl.out
     rw [planCol_all] at hp
     have HZ := Lib.hid (from_yes hsh.out)
     have HRA := Lib.hid hp.rows_at
     have HXW := Lib.hid hx
     have hlen : (planOf ls wants set).length = ls.length := plan_len _ _ _
     rw [← hlen] at HRA
     have HLN := Lib.hid hlen
     clear hsh hpl hp hx hlen
     go_wp2
     go_ret2
     rw [← HLN.out]
     exact ⟨HXW.out, .inr ⟨_, vb, c, HZ.out, rfl, HRA.out⟩⟩
end Go.Proofs.YtpebafaigldldaaGreatDoor
