/- The law CardFills: a node of the reference's fill; Fill; the walk. -/
import Derived.Test.YtjbeiclfggjbmaaGreatDoorFills
import Derived.Deep.RegionHeld3
namespace Go.Proofs.YtjbeiclfggjbmaaGreatDoor
open Go.RowKit

theorem kind_box {W : World} {b : Nat} {x y : Value} {t : TypeId} (h : W.heap[b]? = some (.cells #[x, y] t (0, 0))) : W.cell? ⟨b, 0, none⟩ = some x ∧ W.cell? ⟨b, 1, none⟩ = some y := by
  simp [World.cell?, h]
set_option maxRecDepth 100000 in
set_option maxHeartbeats 4000000 in
theorem rfill_node (K : List Kind) (w0 : World) (kv : Value) (k : Kind) (ks : List Kind) (hk : KindsAt w0 kv K) (hgood : ∀ k, k ∈ K → badKind k = false) (hK : K.length ≤ 4) (ih : RFillCall K w0 kv ks) : RFillCall K w0 kv (k :: ks) := by
  intro nowv bv now left A acc hx0 hlen hdrop hl0 hl1 hn ha hN hV
  have hil : now.length < K.length := by simp at hlen; omega
  have hki : K[now.length]? = some k := by
    have := congrArg List.head? hdrop
    rw [List.head?_drop] at this; simpa using this
  have hdrop2 : K.drop (now.length + 1) = ks := by
    have := congrArg List.tail hdrop
    rw [List.tail_drop] at this; simpa using this
  have hgk := hgood k (List.mem_of_getElem? hki)
  have hgks : ∀ k, k ∈ ks → badKind k = false := fun k hk => hgood k (List.mem_of_mem_drop (hdrop2 ▸ hk))
  obtain ⟨a, c, rfl, r1, r2, r3⟩ := hk.open
  obtain ⟨b, o, k', rfl, hk', kc0, kc1⟩ := r3 now.length hil
  have : k' = k := by have := hk'.out; rw [hki] at this; cases this; rfl
  subst this
  obtain ⟨⟨hh1, hh2⟩, hm1, hm2⟩ : (1 ≤ k'.holds ∧ k'.holds ≤ 36) ∧ (0 ≤ k'.many ∧ k'.many ≤ 20) := by
    simp only [badKind, Bool.or_eq_false_iff, Bool.not_eq_false', inB_iff] at hgk
    exact hgk
  have t1 : ((now.length : Int) == (K.length : Int)) = false := by rw [beq_eq_false_iff_ne]; omega
  have t2 : (now.length == K.length) = false := by rw [beq_eq_false_iff_ne]; omega
  obtain ⟨na, nc, rfl, n1, n2, _⟩ := hN.open
  have d0 := hx0.cell kc0
  have d1 := hx0.cell kc1
  have hmix : Tryz.prog.follows .mixedOrders = true := by kernel_rfl
  have HI := Lib.hid ih
  have HCNT := Lib.hid (fun j => cntOf_lt (k := k') (left := left) (j := j) hh1 hm1 hl0)
  have HLEN := Lib.hid hlen
  have HD := Lib.hid hdrop2
  have HN := Lib.hid hn
  have HX0 := Lib.hid hx0
  have HNV := Lib.hid hN
  have HOKU := Lib.hid (fun j (hj : j ≤ cntOf k' left) => show AccOk (fillUpto k' ks now left now.sum acc j) by
    induction j with
    | zero => exact ha
    | succ j ihj =>
      rw [fillUpto_succ]
      obtain ⟨u1, u2⟩ := (cntOf_lt (k := k') (left := left) (j := j) hh1 hm1 hl0).1 (by omega)
      have := accOk_go ks (now ++ [(j : Int)]) (left - j * k'.holds) (fillUpto k' ks now left now.sum acc j) hgks (by simp at hlen ⊢; omega)
        (fun x hx => by
          rcases List.mem_append.1 hx with h | h
          · exact hn x h
          · obtain rfl : x = j := by simpa using h
            omega) (by omega) (ihj (by omega))
      rw [List.sum_append] at this
      simpa using this)
  have hN5 : now.length ≤ 4 := by omega
  have b1 : (now.length : Int) < (K.length : Int) := by omega
  have b0 : (0 : Int) ≤ (now.length : Int) := by omega
  have hb0 := World.alloc_heap_new A (.cells #[.int .i64 k'.holds, .int .i64 k'.many] 153)
  have hxa0 : Ext A (A.alloc (.cells #[.int .i64 k'.holds, .int .i64 k'.many] 153)) := (Ext.refl A).alloc _
  have HV0 := Lib.hid (hV.ext hxa0)
  have HB0 := Lib.hid hb0
  have HXA := Lib.hid hxa0
  clear ih hdrop hdrop2 hki hlen hgood r3 hk' hn ha hgks hgk hk hN hV hx0 kc0 kc1 hb0 hxa0
  go_enter Tryz.func131, Tryz.ntmps131
  go_wp2
  clear t1 t2 d0 d1
  have hst : Ext A (A.alloc (.cells #[.int .i64 k'.holds, .int .i64 k'.many] 153)) := HXA.out
  go_loopw [3, 4, 13] (fun bv fv i wr => ∃ (j : Nat), j ≤ cntOf k' left ∧ i = .int .i64 j ∧ fv = .bool (fillUpto k' ks now left now.sum acc j).isSome ∧ IntsAt wr bv (accL (fillUpto k' ks now left now.sum acc j)) ∧ Ext A wr ∧ Hid (wr.heap[A.heap.size]? = some (.cells #[.int .i64 k'.holds, .int .i64 k'.many] 153 (0, 0)))) (fun _ _ i _ => cntOf k' left - (intOf i).toNat)
  case atStart => exact ⟨0, Nat.zero_le _, rfl, rfl, HV0.out, hst, HB0.out⟩
  case round =>
    clear hst
    obtain ⟨j, hj, rfl, rfl, hbv, hx, hbx⟩ := hrel
    obtain ⟨d0, d1⟩ := kind_box hbx.out
    have hbk := (Array.getElem?_eq_some_iff.1 hbx.out).1
    by_cases hlt : j < cntOf k' left
    · obtain ⟨u1, u2⟩ := (HCNT.out j).1 hlt
      have hp0 : 0 ≤ (j : Int) * k'.holds := Int.mul_nonneg (by omega) (by omega)
      have hp1 : (j : Int) * k'.holds ≤ 20 * 36 := Int.mul_le_mul (by omega) hh2 (by omega) (by omega)
      have x1 : decide ((j : Int) ≤ k'.many) = true := by simpa using u1
      have x2 : decide ((j : Int) * k'.holds ≤ left) = true := by simpa using u2
      have W1 : IntKind.i64.wrap (left - IntKind.i64.wrap ((j : Int) * k'.holds)) = left - j * k'.holds := by
        rw [wrap_id (x := (j : Int) * k'.holds) (by omega) (by omega), wrap_id (by omega) (by omega)]
      have HW := Lib.hid W1
      have HBV := Lib.hid hbv
      obtain ⟨ba, bc, rfl, _⟩ := hbv.open
      have HNR := Lib.hid (fun w1 (hx1 : Ext wr w1) => show RowAt w1 (.slice na now.length nc) now.length (now.map (.int .i64)) from (HNV.out.ext (hx.trans hx1)))
      have HSm := Lib.hid (small_len (n := now.length) (by omega))
      have hs1 : 0 + now.length ≤ maxLen ∧ (0 + now.length) * 8 ≤ 140737488355328 := by unfold maxLen; omega
      have HS1 := Lib.hid hs1
      have HNXT := Lib.hid (fun (vs : Value) (w2 : World) (hx2 : Ext wr w2) (hrow : IntsAt w2 vs (now ++ [(j : Int)])) =>
        HI.out vs (.slice ba (accL (fillUpto k' ks now left now.sum acc j)).length bc) (now ++ [(j : Int)]) (left - j * k'.holds) w2 (fillUpto k' ks now left now.sum acc j) ((HX0.out.trans hx).trans hx2) (by have := HLEN.out; simp at this ⊢; omega) (by rw [List.length_append]; exact HD.out) (by omega) (by omega)
          (fun x hx => by
            rcases List.mem_append.1 hx with h | h
            · exact HN.out x h
            · obtain rfl : x = j := by simpa using h
              omega) (HOKU.out j (by omega)) hrow (HBV.out.ext hx2))
      have HSUM := Lib.hid (show (now ++ [(j : Int)]).sum = now.sum + j by rw [List.sum_append]; simp)
      have HUP := Lib.hid (fillUpto_succ k' ks now left now.sum acc j)
      clear hbv hs1 W1
      generalize hfb : (fillUpto k' ks now left now.sum acc j).isSome = fb at *
      generalize hbn : (accL (fillUpto k' ks now left now.sum acc j)).length = bn at *
      go_upto_region 9 with fail
      go_region_held3 (fun w' => w'.cell? ⟨A.heap.size, 0, none⟩ = some (.int .i64 k'.holds)) (first | go_keep)
          (first
            | (refine step_append_row E_ints (by rfl) _ _ (by rfl) wr.heap.size (by rfl) (World.ownsRow_nil _ _ _ _) (by rfl) (HNR.out _ (by first | exact (Ext.refl wr).drew | exact ((Ext.refl wr).drew).alloc _)) (by simp) (ints_one now) HS1.out.1 HS1.out.2 (by first | exact (Ext.refl wr).drew.size | exact (((Ext.refl wr).drew).alloc _).size) ?_; intro v1 w1 hown1 hgr1 _
               have hx1 := (Ext.refl _).grown hgr1 (fun g hg => by cases hg)
               have hxa : Ext wr w1 := Ext.trans (by first | exact (Ext.refl wr).drew | exact ((Ext.refl wr).drew).alloc _) hx1
               have z0 := hxa.cell d0
               simp only [Nat.zero_add, List.nil_append] at hown1
               have HOWN1 := Lib.hid hown1
               clear hown1 hgr1)
            | (refine step_append_row E_ints (by rfl) _ _ (by rfl) _ (by rfl) (HOWN1.out.alloc (Obj.cells #[.int .i64 j] 3)) (by rfl) (RowAt.new1 w1 #[.int .i64 j] 3) (by rfl) (by simp [Value.oneCell']) HSm.out.1 HSm.out.2 (Nat.le_trans hxa.size ((Ext.refl w1).alloc _).size) ?_; intro v2 w2 hown2 hgrow _
               have hx2 : Ext wr w2 := (hxa.alloc _).grown hgrow (fun g hg => owns_block HOWN1.out g hg)
               have hrow : IntsAt w2 v2 (now ++ [(j : Int)]) := by
                 have := RowAt.of_owns hown2
                 unfold IntsAt; simpa using this
               have y0 := hx2.cell d0)
            | (refine step_append_row E_ints (by rfl) _ _ (by rfl) _ (by rfl) HOWN1.out (by rfl) ((RowAt.new1 wr.drew #[.int .i64 j] 3).ext hx1) (by rfl) (by simp [Value.oneCell']) HSm.out.1 HSm.out.2 hxa.size ?_; intro v2 w2 hown2 hgrow _
               have hx2 : Ext wr w2 := hxa.grown hgrow (fun g hg => owns_block HOWN1.out g hg)
               have hrow : IntsAt w2 v2 (now ++ [(j : Int)]) := by
                 have := RowAt.of_owns hown2
                 unfold IntsAt; simpa using this
               have y0 := hx2.cell d0)
            | (go_at_call 131; rw [HW.out]; refine (HNXT.out v2 w2 hx2 hrow).mono ?_; rintro e w4 ⟨bv4, rfl, hx4, hi4⟩; have hx24 := hx2.trans hx4; have u0 := hx24.cell d0; have HI4 := Lib.hid hi4; clear hi4))
      all_goals go_wp2
      all_goals (go_roundw; (case rel => exact ⟨j + 1, by omega, by go_num, by rw [HUP.out, ← HSUM.out], by rw [HUP.out, ← HSUM.out]; exact HI4.out, hx.trans hx24, (hx24.block hbk).trans hbx.out⟩); (case measure => simp [intOf]; omega))
    · have hje : j = cntOf k' left := by omega
      have hnot : ¬ ((j : Int) ≤ k'.many ∧ (j : Int) * k'.holds ≤ left) := fun h => hlt ((HCNT.out j).2 h)
      have hfin : RFillRes A (fillGo (k' :: ks) now left now.sum acc) (.returned (.tuple #[u3, .bool (fillUpto k' ks now left now.sum acc j).isSome])) wr := by
        rw [hje, fillUpto_all] at hbv ⊢
        exact ⟨_, rfl, hx, hbv⟩
      have HF := Lib.hid hfin
      generalize (fillUpto k' ks now left now.sum acc j).isSome = fb at *
      clear hfin hje hbv
      by_cases u1 : (j : Int) ≤ k'.many
      · have u2 : ¬ (j : Int) * k'.holds ≤ left := fun h => hnot ⟨u1, h⟩
        have hp0 : 0 ≤ (j : Int) * k'.holds := Int.mul_nonneg (by omega) (by omega)
        have hp1 : (j : Int) * k'.holds ≤ 20 * 36 := Int.mul_le_mul (by omega) hh2 (by omega) (by omega)
        have x1 : decide ((j : Int) ≤ k'.many) = true := by simpa using u1
        have x2 : decide ((j : Int) * k'.holds ≤ left) = false := by simpa using u2
        clear hnot hlt hj
        go_wp2
        go_ret2
        exact HF.out
      · have x1 : decide ((j : Int) ≤ k'.many) = false := by simpa using u1
        clear hnot hlt hj
        go_wp2
        go_ret2
        exact HF.out
theorem rfill_all (K : List Kind) (w0 : World) (kv : Value) (hk : KindsAt w0 kv K) (hgood : ∀ k, k ∈ K → badKind k = false) (hK : K.length ≤ 4) : ∀ ks, RFillCall K w0 kv ks
  | [] => rfill_leaf K w0 kv hk hK
  | k :: ks => rfill_node K w0 kv k ks hk hgood hK (rfill_all K w0 kv hk hgood hK ks)
theorem kindsB_of {ks : List Kind} (h : isKindsB ks = true) : (∀ k, k ∈ ks → badKind k = false) ∧ 1 ≤ ks.length ∧ ks.length ≤ 4 := by
  unfold isKindsB at h
  simp only [Bool.and_eq_true, Bool.not_eq_true', List.any_eq_false] at h
  obtain ⟨h1, h2⟩ := h
  have := inB_iff.1 h1
  exact ⟨fun k hk => by simpa using h2 k hk, by omega, by omega⟩
set_option maxHeartbeats 1000000 in
theorem rFill_any (v : Value) (ks : List Kind) (buttons : Int) (w : World) (hk : KindsAt w v ks) (hK : isKindsB ks = true) (hb : inB buttons 0 3000 = true) :
    Calls Tryz.prog 63 #[v, .int .i64 buttons] w (RFillRes w (fillOf ks buttons)) := by
  obtain ⟨h1, h2, h3⟩ := kindsB_of hK
  have hbd := inB_iff.1 hb
  have HC := Lib.hid (rfill_all ks w v hk h1 h3 ks (.slice none 0 0) (.slice none 0 0) [] buttons w none (Ext.refl _) (by simp) rfl hbd.1 hbd.2 (fun x hx => by simp at hx) (fun p hp => by cases hp) (IntsAt.nil _) (IntsAt.nil _))
  obtain ⟨a, c, rfl, _⟩ := hk.open
  clear hk h1 h2 h3 hbd hb hK
  go_enter Tryz.func63, Tryz.ntmps63
  go_wp2_with (go_at_call 131; refine HC.out.mono ?_; rintro e w1 ⟨bv, rfl, hx1, hi1⟩; have HI1 := Lib.hid hi1; clear hi1)
  go_ret2
  exact ⟨_, rfl, hx1, HI1.out⟩
/-! ### The walk -/
theorem fill_bad {v : Value} {ks : List Kind} {buttons : Int} {w : World} (hk : KindsAt w v ks) (h : ¬ (isKindsB ks = true ∧ inB buttons 0 3000 = true)) :
    Calls Tryz.prog 60 #[v, .int .i64 buttons] w fun e w' => e = .returned (.tuple #[.slice none 0 0, .int .i64 0, .int .i64 2]) ∧ Ext w w' :=
  (fill_any v ks buttons w hk).mono fun e w' hq => by
    obtain ⟨nv, d, err, rfl, hx, hq⟩ := hq
    rw [if_neg h] at hq
    obtain ⟨rfl, rfl, rfl⟩ := hq
    exact ⟨rfl, hx⟩
theorem fill_none {v : Value} {ks : List Kind} {buttons : Int} {w : World} (hk : KindsAt w v ks) (h : isKindsB ks = true ∧ inB buttons 0 3000 = true) (hf : fillOf ks buttons = none) :
    Calls Tryz.prog 60 #[v, .int .i64 buttons] w fun e w' => e = .returned (.tuple #[.slice none 0 0, .int .i64 0, .int .i64 5]) ∧ Ext w w' :=
  (fill_any v ks buttons w hk).mono fun e w' hq => by
    obtain ⟨nv, d, err, rfl, hx, hq⟩ := hq
    rw [if_pos h, hf] at hq
    obtain ⟨rfl, rfl, rfl⟩ := hq
    exact ⟨rfl, hx⟩
theorem fillOf_ok {ks : List Kind} {buttons : Int} {p : List Int × Int} (h : isKindsB ks = true ∧ inB buttons 0 3000 = true) (hf : fillOf ks buttons = some p) : p.2 = p.1.sum ∧ (∀ x, x ∈ p.1 → 0 ≤ x ∧ x ≤ 20) ∧ p.1.length ≤ 4 := by
  obtain ⟨h1, h2, h3⟩ := kindsB_of h.1
  have hbd := inB_iff.1 h.2
  exact accOk_go ks [] buttons none h1 (by simpa using h3) (fun x hx => by simp at hx) hbd.1 (fun p hp => by cases hp) p hf
theorem fill_some {v : Value} {ks : List Kind} {buttons : Int} {w : World} {x : List Int} {n : Int} (hk : KindsAt w v ks) (h : isKindsB ks = true ∧ inB buttons 0 3000 = true) (hf : fillOf ks buttons = some (x, n)) :
    Calls Tryz.prog 60 #[v, .int .i64 buttons] w fun e w' => ∃ (a : Option Addr) (m c : Nat), e = .returned (.tuple #[.slice a m c, .int .i64 x.sum, .int .i64 0]) ∧ m = x.length ∧ m ≤ c ∧ c ≤ 9223372036854775807 ∧ Ext w w' ∧ IntsAt w' (.slice a m c) x :=
  (fill_any v ks buttons w hk).mono fun e w' hq => by
    obtain ⟨nv, d, err, rfl, hx, hq⟩ := hq
    rw [if_pos h, hf] at hq
    obtain ⟨h1, rfl, rfl⟩ := hq
    have hn := (fillOf_ok h hf).1
    simp only at hn
    subst hn
    obtain ⟨a, c, rfl, h4, h5, _⟩ := h1.open
    exact ⟨a, _, c, rfl, rfl, h4, h5, hx, h1⟩
set_option maxRecDepth 100000 in
set_option maxHeartbeats 4000000 in
theorem cardFills_any (v : Value) (ks : List Kind) (buttons : Int) (w : World) (hk : KindsAt w v ks) (ht : TabOk w) :
    Calls Tryz.prog 11 #[v, .int .i64 buttons] w (TrueP w) := by
  have HL := Lib.hid (fun w1 (hx : Ext w w1) => lknown_any w1 (ht.ext hx))
  have HRK := Lib.hid (fun w1 (hx : Ext w w1) => rkinds_any v ks w1 (hk.ext hx))
  have HFB := Lib.hid (fun (h : ¬ (isKindsB ks = true ∧ inB buttons 0 3000 = true)) w1 (hx : Ext w w1) => fill_bad (hk.ext hx) h)
  have HFN := Lib.hid (fun (h : isKindsB ks = true ∧ inB buttons 0 3000 = true) (hf : fillOf ks buttons = none) w1 (hx : Ext w w1) => fill_none (hk.ext hx) h hf)
  have HFS := Lib.hid (fun (h : isKindsB ks = true ∧ inB buttons 0 3000 = true) x n (hf : fillOf ks buttons = some (x, n)) w1 (hx : Ext w w1) => fill_some (hk.ext hx) h hf)
  have HRF := Lib.hid (fun (h : isKindsB ks = true ∧ inB buttons 0 3000 = true) w1 (hx : Ext w w1) => rFill_any v ks buttons w1 (hk.ext hx) h.1 h.2)
  obtain ⟨a, c, rfl, h1, h2, _⟩ := hk.open
  clear hk ht
  by_cases hl : 6 < ks.length
  · have t0 : decide ((6 : Int) < (ks.length : Int)) = true := by simp; omega
    go_enter Tryz.func11, Tryz.ntmps11
    go_wp2_with (go_at_call 25; refine (HL.out _ (Ext.refl _)).mono ?_; rintro e w1 ⟨rfl, hx1⟩)
    go_ret
    exact ⟨rfl, hx1⟩
  · have t0 : decide ((6 : Int) < (ks.length : Int)) = false := by simp; omega
    cases hK : isKindsB ks with
    | false =>
      rw [hK] at HRK
      have HB := Lib.hid (show ¬ (isKindsB ks = true ∧ inB buttons 0 3000 = true) by rw [hK]; simp)
      clear hK
      go_enter Tryz.func11, Tryz.ntmps11
      go_wp2_with (first
        | (go_at_call 60; refine (HFB.out HB.out _ (Ext.refl _)).mono ?_; rintro e w1 ⟨rfl, hx1⟩)
        | (go_at_call 61; refine (HRK.out _ hx1).mono ?_; rintro e w' ⟨rfl, rfl⟩)
        | (go_at_call 25; refine (HL.out _ hx1).mono ?_; rintro e w2 ⟨rfl, hx2⟩))
      go_ret
      exact ⟨rfl, hx1.trans hx2⟩
    | true =>
      rw [hK] at HRK
      cases hb : inB buttons 0 3000 with
      | false =>
        have HO := Lib.hid (fun w1 => hb ▸ rorder_any buttons w1)
        have HB := Lib.hid (show ¬ (isKindsB ks = true ∧ inB buttons 0 3000 = true) by rw [hb]; simp)
        clear hK hb
        go_enter Tryz.func11, Tryz.ntmps11
        go_wp2_with (first
          | (go_at_call 60; refine (HFB.out HB.out _ (Ext.refl _)).mono ?_; rintro e w1 ⟨rfl, hx1⟩)
          | (go_at_call 61; refine (HRK.out _ hx1).mono ?_; rintro e w' ⟨rfl, rfl⟩)
          | (go_at_call 62; refine (HO.out _).mono ?_; rintro e w' ⟨rfl, rfl⟩)
          | (go_at_call 25; refine (HL.out _ hx1).mono ?_; rintro e w2 ⟨rfl, hx2⟩))
        go_ret
        exact ⟨rfl, hx1.trans hx2⟩
      | true =>
        have HO := Lib.hid (fun w1 => hb ▸ rorder_any buttons w1)
        have HG := Lib.hid (show isKindsB ks = true ∧ inB buttons 0 3000 = true from ⟨hK, hb⟩)
        clear hK hb
        cases hf : fillOf ks buttons with
        | none =>
          have HF := Lib.hid hf
          clear hf
          go_enter Tryz.func11, Tryz.ntmps11
          go_wp2_with (first
            | (go_at_call 60; refine (HFN.out HG.out HF.out _ (Ext.refl _)).mono ?_; rintro e w1 ⟨rfl, hx1⟩)
            | (go_at_call 61; refine (HRK.out _ hx1).mono ?_; rintro e w' ⟨rfl, rfl⟩)
            | (go_at_call 62; refine (HO.out _).mono ?_; rintro e w' ⟨rfl, rfl⟩)
            | (go_at_call 63; refine (HRF.out HG.out _ hx1).mono ?_; rintro e w2 ⟨bv, rfl, hx2, hi2⟩; rw [HF.out]; clear hi2; have hx12 := hx1.trans hx2)
            | (go_at_call 25; refine (HL.out _ hx12).mono ?_; rintro e w3 ⟨rfl, hx3⟩))
          go_ret
          exact ⟨rfl, hx12.trans hx3⟩
        | some p =>
          obtain ⟨x, n⟩ := p
          have hok := fillOf_ok HG.out hf
          have HF := Lib.hid hf
          have HOK := Lib.hid hok
          clear hf hok
          go_enter Tryz.func11, Tryz.ntmps11
          go_wp2_with (first
            | (go_at_call 60; refine (HFS.out HG.out x n HF.out _ (Ext.refl _)).mono ?_; rintro e w1 ⟨a1, m1, c1, rfl, rfl, hmc1, hc1, hx1, hi1⟩; have HI1 := Lib.hid hi1; clear hi1)
            | (go_at_call 61; refine (HRK.out _ hx1).mono ?_; rintro e w' ⟨rfl, rfl⟩)
            | (go_at_call 62; refine (HO.out _).mono ?_; rintro e w' ⟨rfl, rfl⟩)
            | (go_at_call 63; refine (HRF.out HG.out _ hx1).mono ?_; rintro e w2 ⟨bv, rfl, hx2, hi2⟩; rw [HF.out] at hi2 ⊢; obtain ⟨ba, bc, rfl, _⟩ := hi2.open; have HI2 := Lib.hid hi2; clear hi2; have hx12 := hx1.trans hx2)
            | (go_at_call 34; refine (same_yes _ _ x _ (HI1.out.ext hx2) HI2.out).mono ?_; rintro e w3 ⟨rfl, hx3⟩; have hx13 := hx12.trans hx3)
            | (go_at_call 64; refine (rsum_any _ x _ (HI2.out.ext hx3) (fun z hz => by have := HOK.out.2.1 z hz; omega) (by have h : x.length ≤ 4 := HOK.out.2.2; omega)).mono ?_; rintro e w' ⟨rfl, rfl⟩)
            | (go_at_call 25; refine (HL.out _ hx13).mono ?_; rintro e w4 ⟨rfl, hx4⟩))
          go_ret
          exact ⟨rfl, hx13.trans hx4⟩
end Go.Proofs.YtjbeiclfggjbmaaGreatDoor
