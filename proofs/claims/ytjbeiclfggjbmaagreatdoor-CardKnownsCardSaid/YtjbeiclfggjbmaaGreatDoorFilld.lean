/- Fillings: a node of the search. -/
import Derived.Test.YtjbeiclfggjbmaaGreatDoorFillb
import Derived.Deep.RegionHeld3
import Derived.Laws.BitsLemmas
namespace Go.Proofs.YtjbeiclfggjbmaaGreatDoor
open Go.RowKit

theorem cntOf_lt {k : Kind} {left : Int} {j : Nat} (h1 : 1 ≤ k.holds) (h2 : 0 ≤ k.many) (h3 : 0 ≤ left) : j < cntOf k left ↔ (j : Int) ≤ k.many ∧ (j : Int) * k.holds ≤ left := by
  have hd : 0 ≤ left / k.holds := Int.ediv_nonneg h3 (by omega)
  rw [← Int.le_ediv_iff_mul_le (by omega)]
  unfold cntOf
  omega
/-- What the search has found when j numbers of a kind are tried. -/
def fillUpto (k : Kind) (ks : List Kind) (now : List Int) (left cards : Int) (acc : Found) (j : Nat) : Found :=
  (List.range j).foldl (fun (acc : Found) (n : Nat) => fillGo ks (now ++ [(n : Int)]) (left - n * k.holds) (cards + n) acc) acc
theorem fillUpto_succ (k : Kind) (ks : List Kind) (now : List Int) (left cards : Int) (acc : Found) (j : Nat) : fillUpto k ks now left cards acc (j + 1) = fillGo ks (now ++ [(j : Int)]) (left - j * k.holds) (cards + j) (fillUpto k ks now left cards acc j) := by
  unfold fillUpto; rw [List.range_succ, List.foldl_append]; rfl
theorem fillUpto_all (k : Kind) (ks : List Kind) (now : List Int) (left cards : Int) (acc : Found) : fillUpto k ks now left cards acc (cntOf k left) = fillGo (k :: ks) now left cards acc := rfl

theorem wrap_id {x : Int} (h1 : -9223372036854775808 ≤ x) (h2 : x ≤ 9223372036854775807) : IntKind.i64.wrap x = x := by
  rw [IntKind.wrap_i64]; omega
/-- The contract of the search, with the kinds ks left. -/
def FillCall (K : List Kind) (w0 : World) (kb ob lb sb : Nat) (kv : Value) (ks : List Kind) : Prop :=
  ∀ (nowv : Value) (now : List Int) (left cards : Int) (A : World) (acc : Found), now.length + ks.length = K.length → K.drop now.length = ks → 0 ≤ left → left ≤ 3000 → 0 ≤ cards → cards ≤ now.length * 20 →
    FillEnv K w0 kb ob lb sb kv A → FillAt ob lb A acc → IntsOff (fun i => i = ob ∨ i = lb) A nowv now →
    Calls Tryz.prog 129 #[nowv, .int .i64 left, .int .i64 cards, .pointer (some ⟨kb, 0, none⟩), .pointer (some ⟨ob, 0, none⟩), .pointer (some ⟨lb, 0, none⟩), .pointer (some ⟨sb, 0, none⟩)] A fun e w' =>
      FillPost ob lb A (fillGo ks now left cards acc) e w' ∧ w'.frozen? ⟨ob, 0, none⟩ = false ∧ w'.frozen? ⟨lb, 0, none⟩ = false

set_option maxRecDepth 100000 in
set_option maxHeartbeats 4000000 in
theorem fill_node (K : List Kind) (w0 : World) (kb ob lb sb : Nat) (kv : Value) (k : Kind) (ks : List Kind) (hk : KindsAt w0 kv K) (hgood : ∀ k, k ∈ K → badKind k = false) (hK : K.length ≤ 4) (hob : ob ≠ lb)
    (m0 : w0.heap.size ≤ ob) (m1 : w0.heap.size ≤ lb) (n1 : kb ≠ ob) (n2 : kb ≠ lb) (n3 : sb ≠ ob) (n4 : sb ≠ lb) (ih : FillCall K w0 kb ob lb sb kv ks) : FillCall K w0 kb ob lb sb kv (k :: ks) := by
  intro nowv now left cards A acc hlen hdrop hl0 hl1 hc0 hc1 hE hA hN
  have hil : now.length < K.length := by simp at hlen; omega
  have hki : K[now.length]? = some k := by
    have := congrArg List.head? hdrop
    rw [List.head?_drop] at this; simpa using this
  have hdrop2 : K.drop (now.length + 1) = ks := by
    have := congrArg List.tail hdrop
    rw [List.tail_drop] at this; simpa using this
  obtain ⟨a, c, rfl, r1, r2, r3⟩ := hk.open
  obtain ⟨b, o, k', rfl, hk', kc0, kc1⟩ := r3 now.length hil
  have : k' = k := by have := hk'.out; rw [hki] at this; cases this; rfl
  subst this
  obtain ⟨⟨hh1, hh2⟩, hm1, hm2⟩ : (1 ≤ k'.holds ∧ k'.holds ≤ 36) ∧ (0 ≤ k'.many ∧ k'.many ≤ 20) := by
    have := hgood k' (List.mem_of_getElem? hki)
    simp only [badKind, Bool.or_eq_false_iff, Bool.not_eq_false', inB_iff] at this
    exact this
  have t1 : ((now.length : Int) == (K.length : Int)) = false := by rw [beq_eq_false_iff_ne]; omega
  have t2 : (now.length == K.length) = false := by rw [beq_eq_false_iff_ne]; omega
  obtain ⟨na, nc, rfl, _⟩ := hN.1.open
  have e0 := hE.k
  have hmix : Tryz.prog.follows .mixedOrders = true := by kernel_rfl
  have hN5 : now.length ≤ 4 := by omega
  have HI := Lib.hid ih
  have HCNT := Lib.hid (fun j => cntOf_lt (k := k') (left := left) (j := j) hh1 hm1 hl0)
  have HLEN := Lib.hid hlen
  have HD := Lib.hid hdrop2
  have HG := Lib.hid hgood
  have HC1 := Lib.hid hc1
  have hcb : cards ≤ 100 := by omega
  clear ih hdrop hdrop2 hki hlen hgood r3 hk' hc1
  go_enter Tryz.func129, Tryz.ntmps129
  go_wp2
  clear t1 t2
  go_loopw [11] (fun i wr => ∃ (j : Nat), j ≤ cntOf k' left ∧ i = .int .i64 j ∧ Touch (fun i => i = ob ∨ i = lb) A wr ∧ FillAt ob lb wr (fillUpto k' ks now left cards acc j) ∧ wr.frozen? ⟨ob, 0, none⟩ = false ∧ wr.frozen? ⟨lb, 0, none⟩ = false) (fun i _ => cntOf k' left - (intOf i).toNat)
  case atStart => exact ⟨0, Nat.zero_le _, rfl, Touch.refl _ _, hA, hE.f0, hE.f1⟩
  case round =>
    obtain ⟨j, hj, rfl, hT, hAw, fz0, fz1⟩ := hrel
    have hEw := hE.touch hT m0 m1 n1 n2 n3 n4 ⟨fz0, fz1⟩
    have hNw := hN.touch hT
    have d0 := hEw.k
    have d1 := hEw.ext.cell kc0
    have d2 := hEw.ext.cell kc1
    have d3 := hEw.s
    have b1 : (now.length : Int) < (K.length : Int) := by omega
    have b0 : (0 : Int) ≤ (now.length : Int) := by omega
    by_cases hlt : j < cntOf k' left
    · obtain ⟨u1, u2⟩ := (HCNT.out j).1 hlt
      have hp0 : 0 ≤ (j : Int) * k'.holds := Int.mul_nonneg (by omega) (by omega)
      have x1 : decide ((j : Int) ≤ k'.many) = true := by simpa using u1
      have x2 : decide ((j : Int) * k'.holds ≤ left) = true := by simpa using u2
      obtain ⟨_, _, hob0, hlb0⟩ := hAw.cells
      have hnb : ¬ (b = ob ∨ b = lb) := fun h => by have := lt_of_cell kc0; simp only at this; omega
      have HNB := Lib.hid hnb
      clear hnb
      have HN12 := Lib.hid (show (¬ (kb = ob ∨ kb = lb)) ∧ ¬ (sb = ob ∨ sb = lb) by omega)
      have HAW := Lib.hid hAw
      have HNW := Lib.hid hNw
      have HEW := Lib.hid hEw
      have HT := Lib.hid hT
      have HCl := Lib.hid (fun w1 (hx : Ext wr w1) => clone_any (.slice na now.length nc) now w1 (hNw.1.ext hx) (by omega))
      have HSm := Lib.hid (small_len (n := now.length) (by omega))
      have HSE := Lib.hid (fun w1 (hx : Ext wr w1) => And.intro (hx.cell d0) (And.intro (hx.cell d1) (hx.cell d3)))
      clear hAw hNw hEw hN hE hA hk kc0 kc1
      have hp1 : (j : Int) * k'.holds ≤ 20 * 36 := Int.mul_le_mul (by omega) hh2 (by omega) (by omega)
      have W1 : IntKind.i64.wrap (left - IntKind.i64.wrap ((j : Int) * k'.holds)) = left - j * k'.holds := by
        rw [wrap_id (x := (j : Int) * k'.holds) (by omega) (by omega), wrap_id (by omega) (by omega)]
      have W2 : IntKind.i64.wrap (cards + (j : Int)) = cards + j := wrap_id (by omega) (by omega)
      have HNXT := Lib.hid (fun (vs : Value) (w2 : World) (hx2 : Ext wr w2) (hrow : IntsOff (· < wr.heap.size) w2 vs (now ++ [(j : Int)])) =>
        HI.out vs (now ++ [(j : Int)]) (left - j * k'.holds) (cards + j) w2 (fillUpto k' ks now left cards acc j) (by have := HLEN.out; simp at this ⊢; omega) (by rw [List.length_append]; exact HD.out) (by omega) (by omega) (by omega) (by have := HC1.out; simp; omega)
          (HEW.out.touch (Touch.of_ext hx2) m0 m1 n1 n2 n3 n4 ⟨(hx2.frozen (lt_of_cell hob0)).trans fz0, (hx2.frozen (lt_of_cell hlb0)).trans fz1⟩) (HAW.out.ext hx2) (hrow.less (fun i hi => by
            rcases hi with rfl | rfl
            · exact lt_of_cell hob0
            · exact lt_of_cell hlb0)))
      have HW := Lib.hid (And.intro W1 W2)
      clear hob0 hlb0 n1 n2 W1 W2
      go_upto_region 7 with fail
      go_region_held3 (fun w' => w'.cell? ⟨kb, 0, none⟩ = some (.slice (some ⟨b, o, none⟩) K.length c) ∧ w'.cell? ⟨b, o + now.length * 2, none⟩ = some (.int .i64 k'.holds) ∧ w'.cell? ⟨sb, 0, none⟩ = some (.func (.func 129) #[] #[.pointer (some ⟨kb, 0, none⟩), .pointer (some ⟨ob, 0, none⟩), .pointer (some ⟨lb, 0, none⟩), .pointer (some ⟨sb, 0, none⟩)])) (first | go_keep | exact HSE.out _ (((Ext.refl wr).drew).alloc _) | exact HSE.out _ (hxa.alloc _))
          (first
            | (go_at_call 130; refine (HCl.out _ (by first | exact (Ext.refl wr).drew | exact ((Ext.refl wr).drew).alloc _)).mono ?_; rintro e w1 ⟨v1, rfl, hown1, hx1⟩; have hxa : Ext wr w1 := Ext.trans (by first | exact (Ext.refl wr).drew | exact ((Ext.refl wr).drew).alloc _) hx1; have z0 := hxa.cell d0; have z1 := hxa.cell d1; have z2 := hxa.cell d3)
            | (refine step_append_row E_ints (by rfl) _ _ (by rfl) _ (by rfl) (hown1.alloc (Obj.cells #[.int .i64 j] 3)) (by rfl) (RowAt.new1 w1 #[.int .i64 j] 3) (by rfl) (by simp [Value.oneCell']) HSm.out.1 HSm.out.2 (Nat.le_trans hx1.size ((Ext.refl w1).alloc _).size) ?_; intro v2 w2 hown2 hgrow _; have hx2 : Ext wr w2 := (hxa.alloc _).grown hgrow (fun g hg => Nat.le_trans (Nat.le_refl _) (owns_block hown1 g hg)); have hrow := row_push (Nat.le_refl wr.heap.size) hown2; have y0 := hx2.cell d0; have y1 := hx2.cell d1; have y2 := hx2.cell d3)
            | (refine step_append_row E_ints (by rfl) _ _ (by rfl) _ (by rfl) hown1 (by rfl) ((RowAt.new1 wr.drew #[.int .i64 j] 3).ext hx1) (by rfl) (by simp [Value.oneCell']) HSm.out.1 HSm.out.2 hx1.size ?_; intro v2 w2 hown2 hgrow _; have hx2 : Ext wr w2 := hxa.grown hgrow (fun g hg => Nat.le_trans (((Ext.refl wr).drew).alloc _).size (owns_block hown1 g hg)); have hrow := row_push (((Ext.refl wr).drew).alloc (Obj.cells #[.int .i64 j] 3)).size hown2; have y0 := hx2.cell d0; have y1 := hx2.cell d1; have y2 := hx2.cell d3)
            | (go_at_call 129; rw [HW.out.1, HW.out.2]; refine (HNXT.out v2 w2 hx2 hrow).mono ?_; rintro e w4 ⟨⟨rfl, ht4, hA4⟩, fy0, fy1⟩; have x0 := ht4.cell y0 HN12.out.1; have x2 := ht4.cell y2 HN12.out.2; have x1 := ht4.cell y1 (fun h => HNB.out h)))
      all_goals go_wp2
      all_goals (go_roundw; (case rel => exact ⟨j + 1, by omega, by go_num, HT.out.trans ((Touch.of_ext hx2).trans ht4), by rw [fillUpto_succ]; exact hA4, fy0, fy1⟩); (case measure => simp [intOf]; omega))
    · have hje : j = cntOf k' left := by omega
      have hnot : ¬ ((j : Int) ≤ k'.many ∧ (j : Int) * k'.holds ≤ left) := fun h => hlt ((HCNT.out j).2 h)
      have hfin : FillPost ob lb A (fillGo (k' :: ks) now left cards acc) (.returned (.tuple #[])) wr ∧ wr.frozen? ⟨ob, 0, none⟩ = false ∧ wr.frozen? ⟨lb, 0, none⟩ = false := ⟨⟨rfl, hT, by rw [← fillUpto_all, ← hje]; exact hAw⟩, fz0, fz1⟩
      have HF := Lib.hid hfin
      clear hfin hAw hT hEw hNw hA hE hk hje
      by_cases u1 : (j : Int) ≤ k'.many
      · have u2 : ¬ (j : Int) * k'.holds ≤ left := fun h => hnot ⟨u1, h⟩
        have hp0 : 0 ≤ (j : Int) * k'.holds := Int.mul_nonneg (by omega) (by omega)
        have hp1 : (j : Int) * k'.holds ≤ 20 * 36 := Int.mul_le_mul (by omega) hh2 (by omega) (by omega)
        have x1 : decide ((j : Int) ≤ k'.many) = true := by simpa using u1
        have x2 : decide ((j : Int) * k'.holds ≤ left) = false := by simpa using u2
        clear hnot hlt hj
        go_wp2
        go_end0
        exact HF.out
      · have x1 : decide ((j : Int) ≤ k'.many) = false := by simpa using u1
        clear hnot hlt hj
        go_wp2
        go_end0
        exact HF.out
end Go.Proofs.YtjbeiclfggjbmaaGreatDoor

/- Fill. -/
namespace Go.Proofs.YtjbeiclfggjbmaaGreatDoor
open Go.RowKit

theorem fill_all (K : List Kind) (w0 : World) (kb ob lb sb : Nat) (kv : Value) (hk : KindsAt w0 kv K) (hgood : ∀ k, k ∈ K → badKind k = false) (hK : K.length ≤ 4) (hpos : 1 ≤ K.length) (hob : ob ≠ lb)
    (m0 : w0.heap.size ≤ ob) (m1 : w0.heap.size ≤ lb) (n1 : kb ≠ ob) (n2 : kb ≠ lb) (n3 : sb ≠ ob) (n4 : sb ≠ lb) : ∀ ks, FillCall K w0 kb ob lb sb kv ks
  | [] => fun nowv now left cards A acc hl hd h0 h1 c0 c1 hE hA hN => fill_leaf K w0 kb ob lb sb kv nowv now left cards A acc hk hE hA hN (by simpa using hl) hpos hob
  | k :: ks => fill_node K w0 kb ob lb sb kv k ks hk hgood hK hob m0 m1 n1 n2 n3 n4 (fill_all K w0 kb ob lb sb kv hk hgood hK hpos hob m0 m1 n1 n2 n3 n4 ks)
theorem enters_fill2 : ∀ args w, (callFunc 129 args).run Tryz.prog w = .ok (.enter 129 args) w := enters_of Tryz.func129 (by kernel_rfl) rfl

/-- What Fill answers. -/
def FillRes (ks : List Kind) (buttons : Int) (w : World) (e : Ending) (w' : World) : Prop :=
  ∃ nv d err, e = .returned (.tuple #[nv, .int .i64 d, .int .i64 err]) ∧ Ext w w' ∧
    if isKindsB ks = true ∧ inB buttons 0 3000 = true then (match fillOf ks buttons with | none => nv = .slice none 0 0 ∧ d = 0 ∧ err = 5 | some (x, n) => IntsAt w' nv x ∧ d = n ∧ err = 0)
    else nv = .slice none 0 0 ∧ d = 0 ∧ err = 2

set_option maxRecDepth 100000 in
set_option maxHeartbeats 4000000 in
theorem fill_any (v : Value) (ks : List Kind) (buttons : Int) (w : World) (hk : KindsAt w v ks) : Calls Tryz.prog 60 #[v, .int .i64 buttons] w (FillRes ks buttons w) := by
  have HC := Lib.hid (fun w1 (hx : Ext w w1) => containsFuncK v ks w1 (hk.ext hx))
  obtain ⟨a, c, rfl, r1, r2, _⟩ := hk.open
  have hmix : Tryz.prog.follows .mixedOrders = true := by kernel_rfl
  have hbad : ∀ w1, Ext w w1 → ¬ (isKindsB ks = true ∧ inB buttons 0 3000 = true) → FillRes ks buttons w (.returned (.tuple #[.slice none 0 0, .int .i64 0, .int .i64 2])) w1 := fun w1 hx hn => ⟨_, _, _, rfl, hx, by rw [if_neg hn]; exact ⟨rfl, rfl, rfl⟩⟩
  have HBAD := Lib.hid hbad
  clear hbad
  have hxa : Ext w (w.alloc (.cells #[.slice a ks.length c] 73)) := (Ext.refl w).alloc _
  have hq0 : (w.alloc (.cells #[.slice a ks.length c] 73)).cell? ⟨w.heap.size, 0, none⟩ = some (.slice a ks.length c) := by go_simp
  cases h1 : inB ks.length 1 4 with
  | false =>
    clear hk
    go_enter Tryz.func60, Tryz.ntmps60
    go_wp2_with (go_at_call 104; refine (in_any _ _ _ _).mono ?_; rintro e w' ⟨rfl, rfl⟩)
    go_ret3
    exact HBAD.out _ hxa (by simp [isKindsB, h1])
  | true =>
    cases h2 : ks.any badKind with
    | true =>
      clear hk
      go_enter Tryz.func60, Tryz.ntmps60
      go_wp2_with (first | (go_at_call 104; refine (in_any _ _ _ _).mono ?_; rintro e w' ⟨rfl, rfl⟩) | (go_at_call 127; refine (HC.out _ hxa).mono ?_; rintro e w1 ⟨rfl, hx1⟩))
      go_ret3
      exact HBAD.out _ (hxa.trans hx1) (by simp [isKindsB, h2])
    | false =>
      cases h3 : inB buttons 0 3000 with
      | false =>
        clear hk
        go_enter Tryz.func60, Tryz.ntmps60
        go_wp2_with (first | (go_at_call 104; refine (in_any _ _ _ _).mono ?_; rintro e w' ⟨rfl, rfl⟩) | (go_at_call 127; refine (HC.out _ hxa).mono ?_; rintro e w1 ⟨rfl, hx1⟩))
        go_ret3
        exact HBAD.out _ (hxa.trans hx1) (by simp [h3])
      | true =>
        have hb := inB_iff.1 h3
        have hl := inB_iff.1 h1
        have hgood : ∀ k, k ∈ ks → badKind k = false := fun k hk => by
          simp only [List.any_eq_false] at h2; simpa using h2 k hk
        have hok : isKindsB ks = true ∧ inB buttons 0 3000 = true := ⟨by simp [isKindsB, h1, h2], h3⟩
        have hnl := fun (w : World) (a : Option Addr) (n c : Nat) => Lib.run_eql_slice_nil (P := Tryz.prog) w 36 3 a n c 0 0 Tryz.underlying36
        have hcall : ∀ w1, Ext w w1 → ∀ A, w1.heap.size + 3 = A.heap.size → Ext w1 A → A.cell? ⟨w.heap.size, 0, none⟩ = some (.slice a ks.length c) → w.heap.size < w1.heap.size →
            A.cell? ⟨w1.heap.size, 0, none⟩ = some (.slice none 0 0) → A.cell? ⟨w1.heap.size + 1, 0, none⟩ = some (.int .i64 0) → A.frozen? ⟨w1.heap.size, 0, none⟩ = false → A.frozen? ⟨w1.heap.size + 1, 0, none⟩ = false →
            A.cell? ⟨w1.heap.size + 1 + 1, 0, none⟩ = some (.func (.func 129) #[] #[.pointer (some ⟨w.heap.size, 0, none⟩), .pointer (some ⟨w1.heap.size, 0, none⟩), .pointer (some ⟨w1.heap.size + 1, 0, none⟩), .pointer (some ⟨w1.heap.size + 1 + 1, 0, none⟩)]) →
            Calls Tryz.prog 129 #[.slice none 0 0, .int .i64 buttons, .int .i64 0, .pointer (some ⟨w.heap.size, 0, none⟩), .pointer (some ⟨w1.heap.size, 0, none⟩), .pointer (some ⟨w1.heap.size + 1, 0, none⟩), .pointer (some ⟨w1.heap.size + 1 + 1, 0, none⟩)] A fun e w' =>
              FillPost w1.heap.size (w1.heap.size + 1) A (fillOf ks buttons) e w' := fun w1 hx A hz hxA q0 hlt q1 q2 f1 f2 q3 =>
          (fill_all ks w1 w.heap.size w1.heap.size (w1.heap.size + 1) (w1.heap.size + 1 + 1) (.slice a ks.length c) (hk.ext hx) hgood (by omega) (by omega) (by omega) (Nat.le_refl _) (by omega) (by omega) (by omega) (by omega) (by omega) ks
            (.slice none 0 0) [] buttons 0 A none (by simp) (by simp) hb.1 hb.2 (by omega) (by simp) ⟨hxA, q0, q3, f1, f2⟩ ⟨q1, q2⟩ (IntsOff.nil _ _)).mono (fun e w' h => h.1)
        have HCL := Lib.hid hcall
        clear hcall hk hgood hb
        cases hfo : fillOf ks buttons with
        | none =>
          rw [hfo] at HCL
          have hfin : ∀ w1, Ext w w1 → FillRes ks buttons w (.returned (.tuple #[.slice none 0 0, .int .i64 0, .int .i64 5])) w1 := fun w1 hx => ⟨_, _, _, rfl, hx, by rw [if_pos hok, hfo]; exact ⟨rfl, rfl, rfl⟩⟩
          have HF := Lib.hid hfin
          clear hfin hfo hok
          go_enter Tryz.func60, Tryz.ntmps60
          go_wp2_with (first
            | (go_at_call 104; refine (in_any _ _ _ _).mono ?_; rintro e w' ⟨rfl, rfl⟩)
            | (go_at_call 127; refine (HC.out _ hxa).mono ?_; rintro e w1 ⟨rfl, hx1⟩; have hxw := hxa.trans hx1; have hlt := lt_of_cell (hx1.cell hq0))
            | (go_at_call 129; refine (HCL.out w1 hxw _ (by simp) ((((Ext.refl w1).alloc _).alloc _).alloc _) (((((Ext.refl w1).alloc _).alloc _).alloc _).cell (hx1.cell hq0)) hlt (by go_simp) (by go_simp) (by go_simp) (by go_simp) (by go_simp)).mono ?_; rintro e w2 ⟨rfl, ht2, hA2⟩; have q2 := hA2.1; have q3 := hA2.2))
          go_ret3
          exact HF.out _ (Touch.ext (((hxw.alloc _).alloc _).alloc _) ht2 (fun i hi => by have := hxw.size; omega))
        | some p =>
          obtain ⟨x, n⟩ := p
          rw [hfo] at HCL
          have hfin : ∀ w1 v, Ext w w1 → IntsAt w1 v x → FillRes ks buttons w (.returned (.tuple #[v, .int .i64 n, .int .i64 0])) w1 := fun w1 v hx hv => ⟨_, _, _, rfl, hx, by rw [if_pos hok, hfo]; exact ⟨hv, rfl, rfl⟩⟩
          have HF := Lib.hid hfin
          clear hfin hfo hok
          go_enter Tryz.func60, Tryz.ntmps60
          go_wp2_with (first
            | (go_at_call 104; refine (in_any _ _ _ _).mono ?_; rintro e w' ⟨rfl, rfl⟩)
            | (go_at_call 127; refine (HC.out _ hxa).mono ?_; rintro e w1 ⟨rfl, hx1⟩; have hxw := hxa.trans hx1; have hlt := lt_of_cell (hx1.cell hq0))
            | (go_at_call 129; refine (HCL.out w1 hxw _ (by simp) ((((Ext.refl w1).alloc _).alloc _).alloc _) (((((Ext.refl w1).alloc _).alloc _).alloc _).cell (hx1.cell hq0)) hlt (by go_simp) (by go_simp) (by go_simp) (by go_simp) (by go_simp)).mono ?_; rintro e w2 ⟨rfl, ht2, hA2⟩; obtain ⟨ra, rc, q2, q3, q4⟩ := hA2))
          go_quiet (fail)
          go_wp2
          go_ret3
          exact HF.out _ _ ((Touch.ext (((hxw.alloc _).alloc _).alloc _) ht2 (fun i hi => by have := hxw.size; omega)).drewN _) (q4.1.ext ((Ext.refl _).drewN _))
end Go.Proofs.YtjbeiclfggjbmaaGreatDoor
