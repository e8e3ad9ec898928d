/- Reads. -/
import Derived.Test.YtokananogogjaaaGreatDoorOlt
import Derived.Test.YtokananogogjaaaGreatDoorOc
namespace Go.Proofs.YtokananogogjaaaGreatDoor
open Go.RowKit
theorem compI2_any (zs : List Int) (g cap : Nat) (w : World) (hH : HoldI w g zs) (hl : zs.length ≤ 100000) (hc : zs.length ≤ cap) (hc2 : cap ≤ 9223372036854775807) :
  Calls Tryz.prog 81 #[.slice (some ⟨g, 0, none⟩) zs.length cap] w fun e w' => ∃ n, e = .returned (.slice (some ⟨g, 0, none⟩) n cap) ∧ Touch (· = g) w w' ∧ IntsAt w' (.slice (some ⟨g, 0, none⟩) n cap) (Go.Lib.compact zs) := by
 have hle : (Go.Lib.compact zs).length ≤ zs.length := compact_len _ _
 refine (Any.slices_Compact_int Tryz.compI g 0 cap zs w hH.h (by omega) hc).mono ?_
 rintro e w' ⟨rfl, q, rfl⟩
 refine ⟨_, rfl, put_touch _ _ _ _, ?_⟩
 have hp := hH.put q (ys := Go.Lib.compact zs ++ List.replicate (zs.length - (Go.Lib.compact zs).length) 0) (by rw [List.length_append, List.length_replicate]; omega)
 exact hp.ints rfl (by omega) hc2
set_option maxRecDepth 100000 in
/-- listed: what it hands back lies in a block of its own. -/
theorem listed2_any (v : Value) (xs : List Int) (w : World) (hv : IntsAt w v xs) (h0 : 0 < xs.length) (hl : xs.length ≤ 100000) :
 Calls Tryz.prog 44 #[v] w fun e w' => ∃ (g n cap : Nat), e = .returned (.slice (some ⟨g, 0, none⟩) n cap) ∧ Ext w w' ∧ IntsAt w' (.slice (some ⟨g, 0, none⟩) n cap) (listedL xs) ∧ w.heap.size ≤ g ∧ g < w'.heap.size := by
 have HC := Lib.hid (clone_any v xs w hv (by omega))
 obtain ⟨a, c, rfl, _⟩ := hv
 have HSO := Lib.hid (fun g cap W hH => sortI_any xs g cap W hH hl)
 have HCO := Lib.hid (fun g cap W hH h1 h2 => compI2_any (sortL xs) g cap W hH (by rw [sortL_len]; exact hl) h1 h2)
 rw [sortL_len, listed_eq] at HCO
 go_enter Tryz.func44, Tryz.ntmps44
 go_wp2_with (first
  | (go_at_call 65; refine HC.out.mono ?_; rintro e w1 ⟨u, rfl, hown, hx⟩; obtain ⟨g, cap, rfl, hg1, hg2⟩ := owns_some hown h0; have hcp := owns_slice hown; obtain ⟨_, _, hve, hp1, hp2⟩ := hcp; cases hve; have hH := HoldI.of_owns hown; clear hown)
  | (go_at_call 80; refine (HSO.out _ _ _ hH).mono ?_; rintro e w2 ⟨rfl, hT, hH2⟩)
  | (go_at_call 81; refine (HCO.out _ _ _ hH2 hp1 hp2).mono ?_; rintro e w3 ⟨n, rfl, hT2, hI⟩))
 go_ret
 exact ⟨_, _, _, rfl, Touch.ext hx (hT.trans hT2) (fun i hi => by omega), hI, hg1, Nat.lt_of_lt_of_le hH2.lt hT2.size⟩
def goodsB (b : Book) (x : Buyer) (y : Letter) : List Int := listedL ((lettersB b x).map fun r => r.2.getD y.1.toNat 0)
def readingsB (b : Book) (x : Buyer) : List (List Int) := x.letters.map (goodsB b x)
def ReadsRes (b : Book) (x : Buyer) (w : World) (e : Ending) (w' : World) : Prop :=
 Ext w w' ∧ ((letErr b x ≠ 0 ∧ e = .returned (.tuple #[.slice none 0 0, .int .i64 (letErr b x)])) ∨ (letErr b x = 0 ∧ ∃ u, e = .returned (.tuple #[u, .int .i64 0]) ∧ IntRowsAt w' u (readingsB b x)))
theorem E_intss : Elem Tryz.prog 29 42 1 24 (.slice none 0 0) := by
 obtain ⟨i, h1, h2, h3, h4⟩ := info_parts (P := Tryz.prog) (e := 42) (z := .slice none 0 0) (size := 1) (bytes := 24) (by kernel_rfl)
 exact ⟨Tryz.underlying29, ⟨i, h1, h2, h3, h4⟩, rfl, by decide⟩
theorem flat_one : ∀ l : List (Value × List Int), (l.flatMap fun x => [x.1]) = l.map Prod.fst
 | [] => rfl
 | a :: l => by rw [List.flatMap_cons, flat_one l]; rfl
theorem letters_perm {b : Book} {x : Buyer} {r : Read1} (h : r ∈ lettersB b x) : r.2 ∈ permsB b := by
 obtain ⟨_, _, _, _, hp⟩ := reads_mem (List.mem_filter.1 h).1
 exact page_perm hp
theorem letErr_buyer {b : Book} {x : Buyer} (h : letErr b x = 0) : isBuyerB b x = true := by
 unfold letErr at h
 split at h
 ·rename_i h2
  unfold askErr at h2
  cases h3 : isBuyerB b x with
  | true => rfl
  | false => rw [h3] at h2; simp at h2
 ·exact absurd h (by assumption)
set_option maxRecDepth 100000 in
set_option maxHeartbeats 8000000 in
theorem Reads_any (v xv : Value) (b : Book) (x : Buyer) (w : World) (hB : BookB b) (hb : BookAt w v b) (hx : BuyerAt w xv x) :
 Calls Tryz.prog 14 #[v, xv] w (ReadsRes b x w) := by
 have HLE := Lib.hid (fun W1 (h : Ext w W1) => letters_any v xv b x W1 hB (hb.ext h) (hx.ext h))
 obtain ⟨ga, gc, ea, ec, rfl, hgl, hel⟩ := hb.open
 obtain ⟨la, lc, rfl, hl1, hl2, hlr⟩ := hx.open
 obtain ⟨W, hW⟩ : ∃ W, W = (w.alloc (bookBox (.slice ga b.goods.length gc) b (.slice ea b.entries.length ec))).alloc (.cells #[.int .i64 x.editions, .slice la x.letters.length lc] 28) := ⟨_, rfl⟩
 have hx0 : Ext w W := by rw [hW]; exact ((Ext.refl w).alloc _).alloc _
 have HX0 := Lib.hid hx0
 have c0 : W.cell? ⟨w.heap.size, 0, none⟩ = some (.slice ga b.goods.length gc) := by rw [hW]; go_simp
 have c1 : W.cell? ⟨w.heap.size, 1, none⟩ = some (.int .i64 b.editions) := by rw [hW]; go_simp
 have c2 : W.cell? ⟨w.heap.size, 2, none⟩ = some (.int .i64 b.moves) := by rw [hW]; go_simp
 have c3 : W.cell? ⟨w.heap.size, 3, none⟩ = some (.slice ea b.entries.length ec) := by rw [hW]; go_simp
 have c4 : W.cell? ⟨w.heap.size + 1, 0, none⟩ = some (.int .i64 x.editions) := by rw [hW]; go_simp
 have c5 : W.cell? ⟨w.heap.size + 1, 1, none⟩ = some (.slice la x.letters.length lc) := by rw [hW]; go_simp
 have HLL := Lib.hid (letters_len hB x)
 obtain ⟨_, _, hve, _, _, q3⟩ := RowOf.open4 (f := letC) (fun _ => rfl) hlr
 cases hve
 have HQ3 := Lib.hid q3
 have HC5 := Lib.hid (fun W1 (h : Ext W W1) => h.cell c5)
 clear hb hx hx0 hgl hel hl1 hl2 hlr hB q3
 rcases letErr_or b x with ⟨hz, hne⟩ | hz
 ·have hbu := letErr_buyer hz
  have HGL := Lib.hid (fun y hy => good_letter hbu (y := y) hy)
  have hbl := buyer_len hbu
  have hR : ∀ w' u, Ext w w' → IntRowsAt w' u (readingsB b x) → ReadsRes b x w (.returned (.tuple #[u, .int .i64 0])) w' := fun w' u h hu => ⟨h, .inr ⟨hz, u, rfl, hu⟩⟩
  have HR := Lib.hid hR
  have HL2 := Lib.hid (fun W1 (h : Ext w W1) => (HLE.out W1 h).mono (fun e w' (he : LetRes b x W1 e w') => (he.2.elim (fun q => absurd hz q.1) (fun q => (let ⟨_, u, h1, rows, h2, h3, h4⟩ := q; ⟨u, rows, h1, he.1, h2, h3, h4⟩)) : ∃ (u : Value) (rows : List Rd), e = .returned (.tuple #[u, .int .i64 0]) ∧ Ext W1 w' ∧ rows.map (fun r => (r.e, r.l)) = lettersB b x ∧ RowOf rdC w' u rows ∧ ∀ r, r ∈ rows → IntsAt w' r.v r.l)))
  have HNE := Lib.hid hne
  clear hR HLE hz hne hbu
  go_enter Tryz.func14, Tryz.ntmps14
  go_upto_region 1 with fail
  unfold bookBox at hW
  rw [← hW]
  clear hW
  go_upto_region 4 with (go_at_call 43; refine (HL2.out _ HX0.out).mono ?_; rintro r w2 ⟨u, rows, rfl, hx2, hrs, hrow, hms⟩; obtain ⟨ua, uc, rfl, l1, l2, l3⟩ := RowOf.open2 (f := rdC) (fun _ => rfl) hrow; clear hrow c0 c1 c2 c3 c4 c5)
  have HL3 := Lib.hid l3
  have HMS := Lib.hid hms
  have HX2 := Lib.hid (HX0.out.trans hx2)
  have hll := congrArg List.length hrs
  rw [List.length_map] at hll
  have hlen : rows.length ≤ 10000 := by have := HLL.out; omega
  have hl0 : 0 < rows.length := by have := List.length_pos_iff.2 HNE.out; omega
  have HSP : Hid (∀ y : Letter, listedL (rows.map fun r => r.l.getD y.1.toNat 0) = goodsB b x y) := fun y => by unfold goodsB; rw [← hrs, List.map_map]; rfl
  have HPM : Hid (∀ p, p ∈ rows → p.l ∈ permsB b) := fun p hp => letters_perm (b := b) (x := x) (r := (p.e, p.l)) (by rw [← hrs]; exact List.mem_map_of_mem hp)
  have c5 := HC5.out _ hx2
  have HC5' := Lib.hid (fun W1 (h : Ext w2 W1) => h.cell c5)
  clear l3 hms hx2 hrs hll HC5
  go_wp2
  clear c5
  go_loopw [8, 26] (fun o j wr => ∃ (k : Nat) (vs : List (Value × List Int)), k ≤ x.letters.length ∧ j = .int .i64 (k : Int) ∧ Hid (vs.map Prod.snd = (x.letters.take k).map (goodsB b x)) ∧ Hid (vs.length = k) ∧ wr.ownsRow w2.heap.size 42 1 o k (vs.map Prod.fst) ∧ Hid (∀ q, q ∈ vs → IntsAt wr q.1 q.2 ∧ ∀ a n c, q.1 = .slice (some a) n c → Value.ownBlock o ≠ some a.block ∧ a.block < wr.heap.size) ∧ Ext w2 wr) (fun _ j _ => x.letters.length - (intOf j).toNat)
  case atStart => exact ⟨0, [], Nat.zero_le _, rfl, by simp [Hid], rfl, World.ownsRow_nil _ _ _ _, fun q hq => by simp at hq, Ext.refl _⟩
  case round =>
   obtain ⟨k, vs, hk, rfl, hvs, hvl, hown, hvi, hx⟩ := hrel
   have c5 := HC5'.out _ hx
   by_cases hlt : k < x.letters.length
   ·obtain ⟨lb, lo, y, rfl, hyk, d0, d1, d2, d3⟩ := HQ3.out k hlt
    have hgl := HGL.out y (List.mem_of_getElem? hyk.out)
    obtain ⟨N, hN⟩ : ∃ N : Nat, y.1 = N := ⟨y.1.toNat, by omega⟩
    have hNG : N < b.goods.length := by omega
    have HSPY := HSP.out y
    rw [hN, Int.toNat_natCast] at HSPY
    rw [hN] at d0
    have h0 := HX2.out.trans hx
    have k0 := h0.cell d0
    have k1 := h0.cell d1
    have k2 := h0.cell d2
    have k3 := h0.cell d3
    have i1 : (0 : Int) ≤ (k : Int) := by omega
    have i2 : (k : Int) < (x.letters.length : Int) := by omega
    have n1 : (0 : Int) ≤ (N : Int) := by omega
    have n2 : (N : Int) < (b.goods.length : Int) := by omega
    obtain ⟨_, _, rfl, _⟩ := RowAt.open (RowAt.of_owns hown)
    have HVS := Lib.hid (show (vs ++ [((.slice none 0 0 : Value), goodsB b x y)]).map Prod.snd = (x.letters.take (k + 1)).map (goodsB b x) by rw [List.take_add_one, hyk.out, List.map_append, List.map_append, hvs.out]; rfl)
    have HOWN := Lib.hid hown
    have HX := Lib.hid hx
    obtain ⟨WP, hWP⟩ : ∃ WP, WP = wr.alloc (.cells #[.int .i64 (N : Int), .int .i64 y.2.1, .int .i64 y.2.2.1, .int .i64 y.2.2.2] 53) := ⟨_, rfl⟩
    have hxp : Ext wr WP := by rw [hWP]; exact (Ext.refl wr).alloc _
    have p0 : WP.cell? ⟨wr.heap.size, 0, none⟩ = some (.int .i64 (N : Int)) := by rw [hWP]; go_simp
    have HXP := Lib.hid hxp
    have HP0 := Lib.hid (fun W1 (h : Ext WP W1) => h.cell p0)
    clear hown hx hxp h0 hyk hgl d0 d1 d2 d3 c5 p0 hN
    go_upto_region 8 with fail
    rw [← hWP]
    clear hWP k0 k1 k2 k3
    go_wp2
    obtain ⟨wq, rfl⟩ : ∃ wq : World, wq = wr := ⟨_, rfl⟩
    go_loopw [11, 32] (fun o j wr => ∃ q : Nat, q ≤ rows.length ∧ j = .int .i64 (q : Int) ∧ wr.ownsRow WP.heap.size 3 1 o q (((rows.take q).map fun r => r.l.getD N 0).map (.int .i64)) ∧ Ext WP wr) (fun _ j _ => rows.length - (intOf j).toNat)
    case atStart => exact ⟨0, Nat.zero_le _, rfl, World.ownsRow_nil _ _ _ _, Ext.refl _⟩
    case round =>
     obtain ⟨q, hq, rfl, hown, hx⟩ := hrel
     by_cases hlt2 : q < rows.length
     ·obtain ⟨bb, bo, p, rfl, hpk, d0, d1⟩ := HL3.out q hlt2
      have hpm := List.mem_of_getElem? hpk.out
      have hpp := (perms_mem.1 (HPM.out p hpm)).1
      have hxw := HX.out.trans (HXP.out.trans hx)
      obtain ⟨ma, mc, hmv, _, _, m3⟩ := ((HMS.out p hpm).ext hxw).open
      obtain ⟨mb, mo, mx, rfl, hmx, m4⟩ := m3 N (by omega)
      have hgx : p.l.getD N 0 = mx := by rw [List.getD_eq_getElem?_getD, hmx.out]; rfl
      have HNP := Lib.hid (rd_push (F := fun r : Rd => r.l.getD N 0) hpk.out)
      simp only at HNP
      rw [hgx] at HNP
      rw [hpp] at hmv
      rw [hmv] at d1
      have g0 := hxw.cell d0
      have g1 := hxw.cell d1
      have hx3 : Ext wr (wr.alloc (.cells #[.int .i64 p.e, .slice (some ⟨mb, mo, none⟩) b.goods.length mc] 91)) := (Ext.refl wr).alloc _
      have m5 := hx3.cell m4
      have p0 := HP0.out _ (hx.trans hx3)
      have j1 : (0 : Int) ≤ (q : Int) := by omega
      have j2 : (q : Int) < (rows.length : Int) := by omega
      have HSZ := Lib.hid (show q + 1 ≤ maxLen ∧ (q + 1) * 8 ≤ 140737488355328 by unfold maxLen; omega)
      obtain ⟨_, _, rfl, _⟩ := RowAt.open (RowAt.of_owns hown)
      have HOWN2 := Lib.hid hown
      have HXX := Lib.hid hx
      clear hown hx hpk hmv d0 d1 hpm hpp hxw m3 hmx hgx m4
      go_wp2_with (at_builtin; refine wpList_push_at E_ints rfl _ _ rfl WP.heap.size rfl (owns_ext HOWN2.out hx3) rfl (by simp) rfl (by simp [Value.oneCell']) ?_ HSZ.out.1 HSZ.out.2 (HXX.out.trans hx3).size; intro g cap w5 hown5 hext5 hg5 hloc5)
      go_roundw
      case rel => exact ⟨q + 1, by omega, by go_num, by rw [HNP.out]; exact hown5, hext5 _ (HXX.out.trans hx3) (Nat.le_refl _)⟩
      case measure => simp [intOf]; omega
     ·have hke : rows.take q = rows := List.take_of_length_le (by omega)
      rw [hke] at hown
      have hkl : q = (rows.map fun r => r.l.getD N 0).length := by rw [List.length_map]; omega
      have hll : 0 < (rows.map fun r => r.l.getD N 0).length ∧ (rows.map fun r => r.l.getD N 0).length ≤ 100000 := by rw [List.length_map]; omega
      rw [hkl] at hown
      generalize (rows.map fun r => r.l.getD N 0) = L at hown hkl hll HSPY
      have HIN := Lib.hid (IntsAt.of_owns hown)
      have HLI := Lib.hid (fun v hv => listed2_any v L wr hv hll.1 hll.2)
      obtain ⟨_, _, rfl, _⟩ := HIN.out.open
      have HXX := Lib.hid (HXP.out.trans hx)
      have HM := Lib.hid (HLI.out _ HIN.out)
      rw [HSPY] at HM
      have HSZ := Lib.hid (show k + 1 ≤ maxLen ∧ (k + 1) * 24 ≤ 140737488355328 by unfold maxLen; omega)
      clear hown hx HLI hkl hke hll HSPY
      go_wp2_with (first
       | (go_at_call 44; refine HM.out.mono ?_; rintro e w5 ⟨ug, un, uc, rfl, hx5, hu, hu1, hu2⟩; have hxq := HXX.out.trans hx5)
       | (at_builtin; refine wpList_push_at E_intss rfl _ _ rfl w2.heap.size rfl (owns_ext HOWN.out hxq) rfl (by simp) rfl (by simp [Value.oneCell']) ?_ HSZ.out.1 HSZ.out.2 (HX.out.trans hxq).size; intro g cap w9 hown9 hext9 hg9 hloc9))
      go_roundw
      case rel =>
       have hT := Touch.grown hg9 (fun k hk => hk)
       have hx5a : Ext w5 (w5.alloc (.cells #[.slice (some ⟨ug, 0, none⟩) un uc] 42)) := (Ext.refl w5).alloc _
       have hT5 := (Touch.of_ext hx5a).trans hT
       have hob : ∀ j, Value.ownBlock _ = some j → j < wq.heap.size := fun j hj => (World.ownsRow.lt HOWN.out j hj).2
       refine ⟨k + 1, vs ++ [(.slice (some ⟨ug, 0, none⟩) un uc, goodsB b x y)], by omega, by go_num, ?_, ?_, ?_, ?_, hext9 _ (HX.out.trans hxq) (Nat.le_refl _)⟩
       ·have h := HVS.out
        unfold Hid
        rw [List.map_append] at h ⊢
        exact h
       ·unfold Hid; rw [List.length_append, hvl.out]; rfl
       ·rw [List.map_append]; exact hown9
       ·intro z hz
        have hws := hxq.size
        have hs9 := hT5.size
        rcases List.mem_append.1 hz with hz | hz
        ·obtain ⟨z1, z2⟩ := hvi.out z hz
         refine ⟨ints_touch (z1.ext hxq) hT5 (fun a n c he hb => (z2 a n c he).1 hb), fun a n c he => ?_⟩
         obtain ⟨z3, z4⟩ := z2 a n c he
         refine ⟨fun hg => ?_, by omega⟩
         have hg' : g = a.block := by have h : some g = some a.block := hg; cases h; rfl
         rcases hloc9 with h | h
         ·exact z3 (h.trans (by rw [hg']))
         ·omega
        ·rw [List.mem_singleton] at hz
         subst hz
         refine ⟨ints_touch hu hT5 (fun a n c he hb => ?_), fun a n c he => ?_⟩
         ·cases he
          have := hob _ hb
          have := HXX.out.size
          simp only at *
          omega
         ·cases he
          refine ⟨fun hg => ?_, by simp only; omega⟩
          have hg' : g = ug := by have h : some g = some ug := hg; cases h; rfl
          rcases hloc9 with h | h
          ·have := hob _ h
           have := HXX.out.size
           omega
          ·omega
      case measure => simp [intOf]; omega
   ·have hke : k = x.letters.length := by omega
    have hrd : vs.map Prod.snd = readingsB b x := by rw [hvs.out, List.take_of_length_le (by omega)]; rfl
    have hrow := RowAt.of_owns hown
    obtain ⟨_, _, rfl, _⟩ := RowAt.open hrow
    have hfin : IntRowsAt wr _ (readingsB b x) := ⟨vs, hrd, (show RowAt wr _ vs.length (vs.flatMap fun x => [x.1]) by rw [hvl.out]; rw [show (vs.flatMap fun x : Value × List Int => [x.1]) = vs.map Prod.fst from flat_one vs]; exact hrow), fun z hz => (hvi.out z hz).1⟩
    have HFIN := Lib.hid hfin
    have HX := Lib.hid (HX2.out.trans hx)
    clear hfin hrow hown hx hvi hvs hrd hke c5
    go_wp2
    go_ret2
    exact HR.out _ _ HX.out HFIN.out
 ·have hR : ∀ w', Ext w w' → ReadsRes b x w (.returned (.tuple #[.slice none 0 0, .int .i64 (letErr b x)])) w' := fun w' h => ⟨h, .inl ⟨hz, rfl⟩⟩
  have HR := Lib.hid hR
  have HL2 := Lib.hid (fun W1 (h : Ext w W1) => (HLE.out W1 h).mono (fun e w' (he : LetRes b x W1 e w') => (he.2.elim (fun q => ⟨q.2, he.1⟩) (fun q => absurd q.1 hz) : e = .returned (.tuple #[.slice none 0 0, .int .i64 (letErr b x)]) ∧ Ext W1 w')))
  have hz0 : (letErr b x == 0) = false := by simpa using hz
  clear hR HLE hz HLL HQ3 HC5
  generalize letErr b x = zz at *
  go_enter Tryz.func14, Tryz.ntmps14
  go_upto_region 1 with fail
  unfold bookBox at hW
  rw [← hW]
  clear hW
  go_wp2_with (go_at_call 43; refine (HL2.out _ HX0.out).mono ?_; rintro r w2 ⟨rfl, hx2⟩)
  go_ret2
  exact HR.out _ (HX0.out.trans hx2)
end Go.Proofs.YtokananogogjaaaGreatDoor
