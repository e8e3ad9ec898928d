/- OrderStocks. -/
import Derived.Test.YtpebafaigldldaaGreatDoorOkn
import Derived.Test.YtpebafaigldldaaGreatDoorOrf
import Derived.Test.YtpebafaigldldaaGreatDoorOlw
namespace Go.Proofs.YtpebafaigldldaaGreatDoor
open Go.RowKit
theorem sellers_areS {ls : List Seller} {wants : List Int} (h : SellersB ls wants) : areSellersB ls wants = true := sellersB_iff.2 h
theorem RowAt.touchS {M : Nat → Prop} {A B : World} {v : Value} {n : Nat} {cs : List Value} (h : RowAt A v n cs) (k : Touch M A B) (hM : ∀ b o len cap, v = .slice (some ⟨b, o, none⟩) len cap → ¬ M b) : RowAt B v n cs := by
 obtain ⟨a, c, rfl, h1, h2, h3, h4⟩ := h
 refine ⟨a, c, rfl, h1, h2, h3, fun j u hj => ?_⟩
 obtain ⟨b, o, ha, hc⟩ := h4 j u hj
 exact ⟨b, o, ha, k.cell hc (by subst ha; exact hM b o _ _ rfl)⟩
theorem E_sellers : Elem Tryz.prog 60 79 3 56 (.agg #[.int .i64 0, .slice none 0 0, .slice none 0 0]) := by
 obtain ⟨i, h1, h2, h3, h4⟩ := info_parts (show (Tryz.prog.info? 79).map (fun i => (i.zero, i.size, i.bytes)) = some (some (.agg #[.int .i64 0, .slice none 0 0, .slice none 0 0]), 3, 56) by kernel_rfl)
 exact ⟨Tryz.underlying60, ⟨i, h1, h2, h3, h4⟩, rfl, by decide⟩
theorem slr_len : ∀ rows : List SlR, (rows.flatMap slrC).length = rows.length * 3
 | [] => rfl
 | r :: rows => by rw [List.flatMap_cons, List.length_append, slr_len rows]; simp [slrC]; omega
theorem slr_at {rows : List SlR} {i : Nat} {r : SlR} (h : rows[i]? = some r) : (rows.flatMap slrC)[i * 3 + 1]? = some r.st := by
 rw [flatMap_at slrC 3 (fun _ => rfl) rows i 1 r h (by omega)]; rfl
theorem slr_set : ∀ {rows : List SlR} {i : Nat} {r : SlR} (st : List Int) (v : Value), rows[i]? = some r → (rows.flatMap slrC).set (i * 3 + 1) v = (rows.set i { r with s := { r.s with stock := st }, st := v }).flatMap slrC
 | [], i, _, _, _, h => by simp at h
 | q :: rows, 0, r, st, v, h => by
  simp at h; subst h
  rfl
 | q :: rows, i + 1, r, st, v, h => by
  have e : (i + 1) * 3 + 1 = (i * 3 + 1) + 3 := by omega
  rw [List.flatMap_cons, List.set_cons_succ, List.flatMap_cons, ← slr_set (i := i) st v (by simpa using h), e]
  rfl
theorem slr_one {w : World} {rows : List SlR} (h : ∀ r, r ∈ rows → IntsAt w r.st r.s.stock ∧ IntsAt w r.pr r.s.price) : ∀ u, u ∈ rows.flatMap slrC → u.oneCell' = true := fun u hu => by
 obtain ⟨r, hr, hu⟩ := List.mem_flatMap.1 hu
 obtain ⟨a, b⟩ := h r hr
 obtain ⟨sa, sc, h1, _⟩ := a.open
 obtain ⟨pa, pc, h2, _⟩ := b.open
 simp [slrC] at hu
 rcases hu with rfl | rfl | rfl
 ·rfl
 ·rw [h1]; rfl
 ·rw [h2]; rfl
theorem more_map {rows : List SlR} {i : Nat} {r : SlR} (h : rows[i]? = some r) (g : Nat) (m : Int) (v : Value) : (rows.set i { r with s := { r.s with stock := r.s.stock.set g (r.s.stock.getD g 0 + m) }, st := v }).map SlR.s = moreStock (rows.map SlR.s) i g m := by
 unfold moreStock
 apply List.ext_getElem?
 intro j
 rw [List.getElem?_map, List.getElem?_modify, List.getElem?_map]
 by_cases e : i = j
 ·subst e
  rw [List.getElem?_set_self (List.getElem?_eq_some_iff.1 h).1, h]; simp
 ·rw [List.getElem?_set_ne e]
  simp [e]
theorem ints_oneS (xs : List Int) : ∀ u, u ∈ xs.map (Value.int .i64) → u.oneCell' = true := fun u hu => by
 obtain ⟨x, _, rfl⟩ := List.mem_map.1 hu
 rfl
theorem ext_blockS {w w' : World} {B : Nat} {o : Obj} (h : Ext w w') (zb : w.heap[B]? = some o) : w'.heap[B]? = some o := (h.block (Array.getElem?_eq_some_iff.1 zb).1).trans zb
/-- What Buy answers, as two numbers: what it costs, and the error. -/
def buyN (ls : List Seller) (wants : List Int) : Int × Int := match buyB ls wants with | none => (0, 5) | some x => (x.2.1, 0)
def BuyP (c f : Int) (w : World) (e : Ending) (w' : World) : Prop := ∃ u, e = .returned (.tuple #[u, .int .i64 c, .int .i64 f]) ∧ Ext w w'
theorem buy_n {ls : List Seller} {wants : List Int} {w w' : World} {e : Ending} (h : BuyRes ls wants w e w') (hs : areSellersB ls wants = true) : BuyP (buyN ls wants).1 (buyN ls wants).2 w e w' := by
 rcases h.2 with ⟨r, _⟩ | ⟨_, r, r2⟩ | ⟨_, y, v, r1, r2, _⟩
 ·rw [hs] at r; cases r
 ·unfold buyN; rw [r]; exact ⟨_, r2, h.1⟩
 ·unfold buyN; rw [r1]; exact ⟨v, r2, h.1⟩
theorem buyN_or (ls : List Seller) (wants : List Int) : (∃ y, buyB ls wants = some y ∧ buyN ls wants = (y.2.1, 0)) ∨ buyB ls wants = none ∧ buyN ls wants = (0, 5) := by
 unfold buyN
 cases h : buyB ls wants with
 | none => exact .inr ⟨rfl, rfl⟩
 | some y => exact .inl ⟨y, rfl, rfl⟩
set_option maxRecDepth 100000 in
set_option maxHeartbeats 16000000 in
theorem orderStocks_any (lv : Value) (ls : List Seller) (wv : Value) (wants : List Int) (seller good more : Int) (av : Value) (x : SlR) (w : World) (hl : SellersAt w lv ls) (hw : IntsAt w wv wants)
  (hx : av = .agg #[.int .i64 x.s.parcel, x.st, x.pr] ∧ IntsAt w x.st x.s.stock ∧ IntsAt w x.pr x.s.price) (ht : TabOk w) (hm : MaxOk w) :
  Calls Tryz.prog 9 #[lv, wv, .int .i64 seller, .int .i64 good, .int .i64 more, av] w fun e w' => e = .returned (.bool true) ∧ Ext w w' := by
 have hmix : Tryz.prog.follows .mixedOrders = true := by kernel_rfl
 obtain ⟨rfl, hst, hpr⟩ := hx
 obtain ⟨sa, sc, hse, s1, s2, -⟩ := hst.open
 obtain ⟨qa, qc, hqe, q1, q2, -⟩ := hpr.open
 rw [hse] at hst ⊢
 rw [hqe] at hpr ⊢
 clear hse hqe
 generalize x.s = S at *
 have HLW := Lib.hid hl
 obtain ⟨la, lc, rfl, l1, l2, -⟩ := hl.open
 obtain ⟨wa, wc, rfl, w1, w2, -⟩ := hw.open
 obtain ⟨W, HW⟩ : ∃ W, Hid (W = w.alloc (.cells #[.int .i64 S.parcel, .slice sa S.stock.length sc, .slice qa S.price.length qc] 79)) := ⟨_, rfl⟩
 have HX0 := Lib.hid (show Ext w W by rw [HW.out]; exact (Ext.refl w).alloc _)
 have hb11 : W.heap[w.heap.size]? = some (.cells #[.int .i64 S.parcel, .slice sa S.stock.length sc, .slice qa S.price.length qc] 79) := by rw [HW.out]; exact World.alloc_heap_new _ _
 have HF := Lib.hid (fun W1 (h : Ext W W1) => (cells3 (ext_blockS h hb11)).1)
 have HIN := Lib.hid (fun W1 (h : Ext W W1) => (⟨hl.ext (HX0.out.trans h), hw.ext (HX0.out.trans h), hst.ext (HX0.out.trans h), hpr.ext (HX0.out.trans h)⟩ : _ ∧ _ ∧ _ ∧ _))
 have HKN := Lib.hid (fun W1 (h : Ext W W1) => lknown_any W1 (ht.ext (HX0.out.trans h)) (hm.ext (HX0.out.trans h)))
 have HFW := Lib.hid (fun W1 (h : Ext W W1) => calls_ext (few_any _ ls W1 (HIN.out W1 h).1))
 have HFW2 := Lib.hid (fun W1 (h : Ext W W1) => (few_any (.slice (some ⟨W1.heap.size, 0, none⟩) 1 1) [S] (W1.alloc (.cells #[.int .i64 S.parcel, .slice sa S.stock.length sc, .slice qa S.price.length qc] 79)) ⟨[{ s := S, st := .slice sa S.stock.length sc, pr := .slice qa S.price.length qc }], rfl, RowAt.new1 W1 #[.int .i64 S.parcel, .slice sa S.stock.length sc, .slice qa S.price.length qc] 79, fun r hr => by
  rw [List.mem_singleton.1 hr]
  exact ⟨(HIN.out W1 h).2.2.1.ext ((Ext.refl W1).alloc _), (HIN.out W1 h).2.2.2.ext ((Ext.refl W1).alloc _)⟩⟩).mono (R' := fun e w' => e = .returned (.bool (fewB [S])) ∧ Ext W1 w') (fun _ _ q => ⟨q.1, q.2 ▸ (Ext.refl W1).alloc _⟩))
 clear hl hw hst hpr ht hm hb11
 go_enter Tryz.func9, Tryz.ntmps9
 go_upto_region 1 with fail
 rw [← HW.out]
 have hq := Ext.refl W
 obtain ⟨y0, y1, y2⟩ := HF.out _ hq
 cases i0 : fewB ls with
 | false =>
  rw [i0] at HFW
  clear i0
  go_wp2_with (first | (go_at_call 32; refine (HFW.out _ hq).mono ?_; rintro e w' ⟨rfl, hx⟩; clear HFW; have hq := hq.trans hx; clear hx; obtain ⟨y0, y1, y2⟩ := HF.out _ hq) | (go_at_call 15; refine (HKN.out _ hq).mono ?_; rintro e w' ⟨rfl, hx⟩; clear HKN; have hq := hq.trans hx; clear hx; obtain ⟨y0, y1, y2⟩ := HF.out _ hq))
  go_ret
  exact ⟨rfl, HX0.out.trans hq⟩
 | true =>
 rw [i0] at HFW
 by_cases i1 : 7 < wants.length
 ·have t1 : decide ((7 : Int) < (wants.length : Int)) = true := by simp; omega
  clear i0 i1
  go_wp2_with (first | (go_at_call 32; refine (HFW.out _ hq).mono ?_; rintro e w' ⟨rfl, hx⟩; clear HFW; have hq := hq.trans hx; clear hx; obtain ⟨y0, y1, y2⟩ := HF.out _ hq) | (go_at_call 15; refine (HKN.out _ hq).mono ?_; rintro e w' ⟨rfl, hx⟩; clear HKN; have hq := hq.trans hx; clear hx; obtain ⟨y0, y1, y2⟩ := HF.out _ hq))
  go_ret
  exact ⟨rfl, HX0.out.trans hq⟩
 have t1 : decide ((7 : Int) < (wants.length : Int)) = false := by simp; omega
 cases i2 : fewB [S] with
 | false =>
  rw [i2] at HFW2
  clear i0 i1 i2
  go_wp2_with (first | (go_at_call 32; refine (HFW.out _ hq).mono ?_; rintro e w' ⟨rfl, hx⟩; clear HFW; have hq := hq.trans hx; clear hx; obtain ⟨y0, y1, y2⟩ := HF.out _ hq) | (go_at_call 32; refine (HFW2.out _ hq).mono ?_; rintro e w' ⟨rfl, hx⟩; clear HFW2; have hq := hq.trans hx; clear hx; obtain ⟨y0, y1, y2⟩ := HF.out _ hq) | (go_at_call 15; refine (HKN.out _ hq).mono ?_; rintro e w' ⟨rfl, hx⟩; clear HKN; have hq := hq.trans hx; clear hx; obtain ⟨y0, y1, y2⟩ := HF.out _ hq))
  go_ret
  exact ⟨rfl, HX0.out.trans hq⟩
 | true =>
 rw [i2] at HFW2
 have HWA := Lib.hid (fun W1 (h : Ext W W1) => calls_ext (rwanted_any _ wants W1 (HIN.out W1 h).2.1))
 have HSE := Lib.hid (fun W1 (h : Ext W W1) => rsellers_any _ ls wants.length W1 (HIN.out W1 h).1 (by omega))
 clear i0 i2
 cases i3 : isWantedB wants with
 | false =>
  rw [i3] at HWA
  clear i1 i3
  go_wp2_with (first | (go_at_call 32; refine (HFW.out _ hq).mono ?_; rintro e w' ⟨rfl, hx⟩; clear HFW; have hq := hq.trans hx; clear hx; obtain ⟨y0, y1, y2⟩ := HF.out _ hq) | (go_at_call 32; refine (HFW2.out _ hq).mono ?_; rintro e w' ⟨rfl, hx⟩; clear HFW2; have hq := hq.trans hx; clear hx; obtain ⟨y0, y1, y2⟩ := HF.out _ hq) | (go_at_call 34; refine (HWA.out _ hq).mono ?_; rintro e w' ⟨rfl, hx⟩; clear HWA; have hq := hq.trans hx; clear hx; obtain ⟨y0, y1, y2⟩ := HF.out _ hq) | (go_at_call 15; refine (HKN.out _ hq).mono ?_; rintro e w' ⟨rfl, hx⟩; clear HKN; have hq := hq.trans hx; clear hx; obtain ⟨y0, y1, y2⟩ := HF.out _ hq))
  go_ret
  exact ⟨rfl, HX0.out.trans hq⟩
 | true =>
 rw [i3] at HWA
 cases i4 : isSellersB wants.length ls with
 | false =>
  rw [i4] at HSE
  clear i1 i3 i4
  go_wp2_with (first | (go_at_call 32; refine (HFW.out _ hq).mono ?_; rintro e w' ⟨rfl, hx⟩; clear HFW; have hq := hq.trans hx; clear hx; obtain ⟨y0, y1, y2⟩ := HF.out _ hq) | (go_at_call 32; refine (HFW2.out _ hq).mono ?_; rintro e w' ⟨rfl, hx⟩; clear HFW2; have hq := hq.trans hx; clear hx; obtain ⟨y0, y1, y2⟩ := HF.out _ hq) | (go_at_call 34; refine (HWA.out _ hq).mono ?_; rintro e w' ⟨rfl, hx⟩; clear HWA; have hq := hq.trans hx; clear hx; obtain ⟨y0, y1, y2⟩ := HF.out _ hq) | (go_at_call 35; refine (HSE.out _ hq).mono ?_; rintro e w' ⟨rfl, hx⟩; clear HSE; have hq := hq.trans hx; clear hx; obtain ⟨y0, y1, y2⟩ := HF.out _ hq) | (go_at_call 15; refine (HKN.out _ hq).mono ?_; rintro e w' ⟨rfl, hx⟩; clear HKN; have hq := hq.trans hx; clear hx; obtain ⟨y0, y1, y2⟩ := HF.out _ hq))
  go_ret
  exact ⟨rfl, HX0.out.trans hq⟩
 | true =>
 rw [i4] at HSE
 have hS : SellersB ls wants := sellersB_iff.1 (by rw [i3, i4]; rfl)
 have hA : areSellersB ls wants = true := by unfold areSellersB; rw [i3, i4]; rfl
 have HSB := Lib.hid hS
 have HI3 := Lib.hid i3
 have hn4 := hS.l4
 have hn5 := hS.w5
 have hn1 := hS.l1
 have HBU := Lib.hid (fun W1 (h : Ext W W1) => (Buy_any _ _ ls wants W1 (HIN.out W1 h).1 (HIN.out W1 h).2.1).mono (fun e w' q => buy_n (show BuyRes ls wants W1 e w' from q) hA))
 obtain ⟨rows, hrows, hrow, hri⟩ := HLW.out
 have HROWS := Lib.hid hrows
 have HROW := Lib.hid hrow
 have HRI := Lib.hid hri
 have hrl : rows.length = ls.length := by rw [← hrows]; simp
 have HRL := Lib.hid hrl
 clear i1 i3 i4 hS hA hrows hrow hri hrl
 have HBN := Lib.hid (buyN_or ls wants)
 generalize hbn : buyN ls wants = bn at *
 obtain ⟨bc, bf⟩ := bn
 have HBNE := Lib.hid hbn
 clear hbn
 simp only at HBU
 have hbf : bf = 0 ∨ bf = 5 := by
  rcases HBN.out with ⟨y, _, h⟩ | ⟨_, h⟩
  ·cases h; exact .inl rfl
  ·cases h; exact .inr rfl
 have HBF := Lib.hid hbf
 clear hbf
 go_upto_region 4 with (first | (go_at_call 32; refine (HFW.out _ hq).mono ?_; rintro e w' ⟨rfl, hx⟩; clear HFW; have hq := hq.trans hx; clear hx; obtain ⟨y0, y1, y2⟩ := HF.out _ hq) | (go_at_call 32; refine (HFW2.out _ hq).mono ?_; rintro e w' ⟨rfl, hx⟩; clear HFW2; have hq := hq.trans hx; clear hx; obtain ⟨y0, y1, y2⟩ := HF.out _ hq) | (go_at_call 34; refine (HWA.out _ hq).mono ?_; rintro e w' ⟨rfl, hx⟩; clear HWA; have hq := hq.trans hx; clear hx; obtain ⟨y0, y1, y2⟩ := HF.out _ hq) | (go_at_call 35; refine (HSE.out _ hq).mono ?_; rintro e w' ⟨rfl, hx⟩; clear HSE; have hq := hq.trans hx; clear hx; obtain ⟨y0, y1, y2⟩ := HF.out _ hq) | (go_at_call 33; refine (HBU.out _ hq).mono ?_; rintro e w' ⟨bv, rfl, hx⟩; clear HBU; have hq := hq.trans hx; clear hx; obtain ⟨y0, y1, y2⟩ := HF.out _ hq))
 obtain ⟨wx, rfl⟩ : ∃ wx : World, wx = w' := ⟨_, rfl⟩
 go_cut [63] from 58 to 63 (fun s63 W1 => s63 = .bool false ∧ wx = W1)
 case first =>
  rcases HBF.out with rfl | rfl
  ·go_wp2
   go_meet
   case rel => exact ⟨rfl, rfl⟩
  ·go_wp2
   go_meet
   case rel => exact ⟨rfl, rfl⟩
 case rest =>
  obtain ⟨rfl, rfl⟩ := hcut
  go_upto_region 6 with fail
  have HQX := Lib.hid hq
  have HROWX := Lib.hid (show RowAt wx (.slice la ls.length lc) ls.length (rows.flatMap slrC) by have h := RowAt.ext HROW.out (HX0.out.trans hq); rwa [HRL.out] at h)
  have HPL := Lib.hid (And.intro (show (rows.flatMap slrC).length = ls.length * 3 by rw [slr_len, HRL.out]) (slr_one HRI.out))
  have HSZ := Lib.hid (show 0 + ls.length ≤ maxLen ∧ (0 + ls.length) * 56 ≤ 140737488355328 ∧ ls.length + 1 ≤ maxLen ∧ (ls.length + 1) * 56 ≤ 140737488355328 by unfold maxLen; omega)
  have HSS := Lib.hid (fun W2 (h : Ext wx W2) => HF.out W2 (hq.trans h))
  have HMK : Hid (∀ (v : Value) W2, Ext wx W2 → RowAt W2 v (ls.length + 1) (rows.flatMap slrC ++ [.int .i64 S.parcel, .slice sa S.stock.length sc, .slice qa S.price.length qc]) → SellersAt W2 v (ls ++ [S])) := fun v W2 h hr => by
   have hin := HIN.out W2 (HQX.out.trans h)
   refine ⟨rows ++ [{ s := S, st := .slice sa S.stock.length sc, pr := .slice qa S.price.length qc }], by rw [List.map_append, HROWS.out]; rfl, ?_, fun r hr => ?_⟩
   ·unfold RowOf
    rw [List.flatMap_append, List.length_append, HRL.out]
    exact hr
   ·rcases List.mem_append.1 hr with h1 | h1
    ·exact ⟨(HRI.out r h1).1.ext (HX0.out.trans (HQX.out.trans h)), (HRI.out r h1).2.ext (HX0.out.trans (HQX.out.trans h))⟩
    ·rw [List.mem_singleton.1 h1]; exact ⟨hin.2.2.1, hin.2.2.2⟩
  go_cut [16] from 64 to 68 (fun s16 W1 => ∃ a c, s16 = .slice a (ls.length + 1) c ∧ Ext wx W1 ∧ SellersAt W1 (.slice a (ls.length + 1) c) (ls ++ [S]))
  case first =>
   refine wp_region_held_drew (S := (fun W' => W'.cell? ⟨w.heap.size, 0, none⟩ = some (.int .i64 S.parcel) ∧ W'.cell? ⟨w.heap.size, 1, none⟩ = some (.slice sa S.stock.length sc) ∧ W'.cell? ⟨w.heap.size, 2, none⟩ = some (.slice qa S.price.length qc))) (by kernel_rfl) ?_ (fun hHeld => ?_)
   · exact HSS.out _ (by repeat (first | exact Ext.refl _ | apply Ext.drew | apply Ext.alloc))
   refine held_take (i := 0) (d := some 64) (v := ?_) (by kernel_rfl) (by kernel_rfl) (by kernel_rfl) (by kernel_rfl) (fun _ _ _ h => h) (fun o ho => ?_) hHeld ?_
   rotate_left
   · simp only [List.getElem?_toArray, List.getElem?_cons_zero, Option.some.injEq] at ho
     subst ho
     refine ⟨by rfl, fun w hSw => ?_⟩
     (try dsimp only at hSw)
     go_simp
     try with_reducible rfl
   try simp only [Act.put, List.setIfInBounds_toArray, List.set_cons_zero, List.set_cons_succ]
   refine held_take (i := 2) (d := some 66) (v := ?_) (by kernel_rfl) (by kernel_rfl) (by kernel_rfl) (by kernel_rfl) (fun _ _ _ h => h) (fun o ho => ?_) hHeld ?_
   rotate_left
   · simp only [List.getElem?_toArray, List.getElem?_cons_zero, List.getElem?_cons_succ, Option.some.injEq] at ho
     subst ho
     refine ⟨by rfl, fun w hSw => ?_⟩
     (try dsimp only at hSw)
     go_simp
     try with_reducible rfl
   try simp only [Act.put, List.setIfInBounds_toArray, List.set_cons_zero, List.set_cons_succ]
   refine wpAnyH_ready (rs := [1, 3]) (by kernel_rfl) (by simp) ?_
   refine held_step (i := 1) (by kernel_rfl) (fun o ho K' hK => ?_) ?_
   · simp only [List.getElem?_toArray, List.getElem?_cons_zero, List.getElem?_cons_succ, Option.some.injEq] at ho
     subst ho
     have hlow : wx.heap.size ≤ wx.drew.heap.size := ((by repeat (first | exact Ext.refl _ | apply Ext.drew | apply Ext.alloc)) : Ext wx wx.drew).size
     have hrow : RowAt wx.drew (.slice la ls.length lc) ls.length (rows.flatMap slrC) := RowAt.ext HROWX.out (by repeat (first | exact Ext.refl _ | apply Ext.drew | apply Ext.alloc))
     refine step_append_row E_sellers (by rfl) _ _ (by rfl) wx.drew.heap.size (by rfl) (World.ownsRow_nil _ _ _ _) (by rfl) hrow HPL.out.1 HPL.out.2 HSZ.out.1 HSZ.out.2.1 (Nat.le_refl _) ?_
     intro v1 w1 own1 hgr1 _
     simp only [Nat.zero_add, List.nil_append] at own1
     have hx1 : Ext wx.drew w1 := Ext.grown (Ext.refl _) hgr1 (fun k hk => by cases hk)
     have hxe : Ext wx w1 := ((by repeat (first | exact Ext.refl _ | apply Ext.drew | apply Ext.alloc)) : Ext wx wx.drew).trans hx1
     obtain ⟨ca, cc, rfl, _⟩ := RowAt.open (RowAt.of_owns own1)
     clear hrow hgr1
     refine hK.out _ _ ?_ (fun hHeld => ?_)
     · exact HSS.out _ (by repeat (first | exact hxe | exact Ext.refl _ | apply Ext.drew | apply Ext.alloc))
     clear hK K'
     refine wpAnyH_ready (rs := [3]) (by kernel_rfl) (by simp) ?_
     refine held_step (i := 3) (by kernel_rfl) (fun o ho K' hK => ?_) ?_
     · simp only [List.getElem?_toArray, List.getElem?_cons_zero, List.getElem?_cons_succ, Option.some.injEq] at ho
       subst ho
       go_simp
       refine hK.out _ _ ?_ (fun hHeld => ?_)
       · exact HSS.out _ (by repeat (first | exact hxe | exact Ext.refl _ | apply Ext.drew | apply Ext.alloc))
       clear hK K'
       try simp only [List.setIfInBounds_toArray, List.set_cons_zero, List.set_cons_succ]
       refine wpAnyH_ready (rs := [4]) (by kernel_rfl) (by simp) ?_
       refine held_step (i := 4) (by kernel_rfl) (fun o ho K' hK => ?_) ?_
       · simp only [List.getElem?_toArray, List.getElem?_cons_zero, List.getElem?_cons_succ, Option.some.injEq] at ho
         subst ho
         refine step_append_row E_sellers (by rfl) _ _ (by rfl) _ (by rfl) (own1.alloc (Obj.cells #[.int .i64 S.parcel, .slice sa S.stock.length sc, .slice qa S.price.length qc] 79)) (by rfl) (RowAt.new1 w1 #[.int .i64 S.parcel, .slice sa S.stock.length sc, .slice qa S.price.length qc] 79) (by rfl) (by simp [Value.oneCell']) HSZ.out.2.2.1 HSZ.out.2.2.2 (Nat.le_trans hx1.size ((Ext.refl w1).alloc _).size) ?_
         intro v2 w2 hown2 hgrow _
         have hx02 : Ext wx w2 := Ext.grown (hxe.alloc (.cells #[.int .i64 S.parcel, .slice sa S.stock.length sc, .slice qa S.price.length qc] 79)) hgrow (fun k hk => Nat.le_trans hlow (owns_block own1 k hk))
         have hr2 := RowAt.of_owns hown2
         obtain ⟨a2, c2, rfl, _⟩ := RowAt.open hr2
         have HN2 := Lib.hid (HMK.out _ w2 hx02 hr2)
         clear hxe hr2
         have hxe := hx02
         clear hx02 hown2 hgrow own1
         refine hK.out _ _ ?_ (fun hHeld => ?_)
         · exact HSS.out _ (by repeat (first | exact hxe | exact Ext.refl _ | apply Ext.drew | apply Ext.alloc))
         clear hK K'
         refine wpAnyH_ready (rs := [5]) (by kernel_rfl) (by simp) ?_
         refine held_step (i := 5) (by kernel_rfl) (fun o ho K' hK => ?_) ?_
         · simp only [List.getElem?_toArray, List.getElem?_cons_zero, List.getElem?_cons_succ, Option.some.injEq] at ho
           subst ho
           go_simp
           refine hK.out _ _ ?_ (fun hHeld => ?_)
           · exact HSS.out _ (by repeat (first | exact hxe | exact Ext.refl _ | apply Ext.drew | apply Ext.alloc))
           clear hK K'
           try simp only [List.setIfInBounds_toArray, List.set_cons_zero, List.set_cons_succ]
           refine wpAnyH_done (by kernel_rfl) ?_ _
           try simp only [List.setIfInBounds_toArray, List.set_cons_zero, List.set_cons_succ]
           clear hHeld
           go_wp2_with fail
           go_meet
           case rel => exact ⟨a2, c2, rfl, hxe, HN2.out⟩
         exact AllReadyH.nil
       exact AllReadyH.nil
     exact AllReadyH.nil
   refine held_step (i := 3) (by kernel_rfl) (fun o ho K' hK => ?_) ?_
   · simp only [List.getElem?_toArray, List.getElem?_cons_zero, List.getElem?_cons_succ, Option.some.injEq] at ho
     subst ho
     go_simp
     refine hK.out _ _ ?_ (fun hHeld => ?_)
     · exact HSS.out _ (by repeat (first | exact hxe | exact Ext.refl _ | apply Ext.drew | apply Ext.alloc))
     clear hK K'
     try simp only [List.setIfInBounds_toArray, List.set_cons_zero, List.set_cons_succ]
     refine wpAnyH_ready (rs := [1]) (by kernel_rfl) (by simp) ?_
     refine held_step (i := 1) (by kernel_rfl) (fun o ho K' hK => ?_) ?_
     · simp only [List.getElem?_toArray, List.getElem?_cons_zero, List.getElem?_cons_succ, Option.some.injEq] at ho
       subst ho
       have hlow : wx.heap.size ≤ (wx.drew.alloc (.cells #[.int .i64 S.parcel, .slice sa S.stock.length sc, .slice qa S.price.length qc] 79)).heap.size := ((by repeat (first | exact Ext.refl _ | apply Ext.drew | apply Ext.alloc)) : Ext wx (wx.drew.alloc (.cells #[.int .i64 S.parcel, .slice sa S.stock.length sc, .slice qa S.price.length qc] 79))).size
       have hrow : RowAt (wx.drew.alloc (.cells #[.int .i64 S.parcel, .slice sa S.stock.length sc, .slice qa S.price.length qc] 79)) (.slice la ls.length lc) ls.length (rows.flatMap slrC) := RowAt.ext HROWX.out (by repeat (first | exact Ext.refl _ | apply Ext.drew | apply Ext.alloc))
       refine step_append_row E_sellers (by rfl) _ _ (by rfl) (wx.drew.alloc (.cells #[.int .i64 S.parcel, .slice sa S.stock.length sc, .slice qa S.price.length qc] 79)).heap.size (by rfl) (World.ownsRow_nil _ _ _ _) (by rfl) hrow HPL.out.1 HPL.out.2 HSZ.out.1 HSZ.out.2.1 (Nat.le_refl _) ?_
       intro v1 w1 own1 hgr1 _
       simp only [Nat.zero_add, List.nil_append] at own1
       have hx1 : Ext (wx.drew.alloc (.cells #[.int .i64 S.parcel, .slice sa S.stock.length sc, .slice qa S.price.length qc] 79)) w1 := Ext.grown (Ext.refl _) hgr1 (fun k hk => by cases hk)
       have hxe : Ext wx w1 := ((by repeat (first | exact Ext.refl _ | apply Ext.drew | apply Ext.alloc)) : Ext wx (wx.drew.alloc (.cells #[.int .i64 S.parcel, .slice sa S.stock.length sc, .slice qa S.price.length qc] 79))).trans hx1
       obtain ⟨ca, cc, rfl, _⟩ := RowAt.open (RowAt.of_owns own1)
       clear hrow hgr1
       refine hK.out _ _ ?_ (fun hHeld => ?_)
       · exact HSS.out _ (by repeat (first | exact hxe | exact Ext.refl _ | apply Ext.drew | apply Ext.alloc))
       clear hK K'
       refine wpAnyH_ready (rs := [4]) (by kernel_rfl) (by simp) ?_
       refine held_step (i := 4) (by kernel_rfl) (fun o ho K' hK => ?_) ?_
       · simp only [List.getElem?_toArray, List.getElem?_cons_zero, List.getElem?_cons_succ, Option.some.injEq] at ho
         subst ho
         refine step_append_row E_sellers (by rfl) _ _ (by rfl) _ (by rfl) own1 (by rfl) ((RowAt.new1 wx.drew #[.int .i64 S.parcel, .slice sa S.stock.length sc, .slice qa S.price.length qc] 79).ext hx1) (by rfl) (by simp [Value.oneCell']) HSZ.out.2.2.1 HSZ.out.2.2.2 hx1.size ?_
         intro v2 w2 hown2 hgrow _
         have hx02 : Ext wx w2 := Ext.grown hxe hgrow (fun k hk => Nat.le_trans hlow (owns_block own1 k hk))
         have hr2 := RowAt.of_owns hown2
         obtain ⟨a2, c2, rfl, _⟩ := RowAt.open hr2
         have HN2 := Lib.hid (HMK.out _ w2 hx02 hr2)
         clear hxe hr2
         have hxe := hx02
         clear hx02 hown2 hgrow own1
         refine hK.out _ _ ?_ (fun hHeld => ?_)
         · exact HSS.out _ (by repeat (first | exact hxe | exact Ext.refl _ | apply Ext.drew | apply Ext.alloc))
         clear hK K'
         refine wpAnyH_ready (rs := [5]) (by kernel_rfl) (by simp) ?_
         refine held_step (i := 5) (by kernel_rfl) (fun o ho K' hK => ?_) ?_
         · simp only [List.getElem?_toArray, List.getElem?_cons_zero, List.getElem?_cons_succ, Option.some.injEq] at ho
           subst ho
           go_simp
           refine hK.out _ _ ?_ (fun hHeld => ?_)
           · exact HSS.out _ (by repeat (first | exact hxe | exact Ext.refl _ | apply Ext.drew | apply Ext.alloc))
           clear hK K'
           try simp only [List.setIfInBounds_toArray, List.set_cons_zero, List.set_cons_succ]
           refine wpAnyH_done (by kernel_rfl) ?_ _
           try simp only [List.setIfInBounds_toArray, List.set_cons_zero, List.set_cons_succ]
           clear hHeld
           go_wp2_with fail
           go_meet
           case rel => exact ⟨a2, c2, rfl, hxe, HN2.out⟩
         exact AllReadyH.nil
       exact AllReadyH.nil
     exact AllReadyH.nil
   exact AllReadyH.nil
  case rest =>
   obtain ⟨a6, c6, rfl, hx6, h6⟩ := hcut
   have H6 := Lib.hid h6
   have HQ6 := Lib.hid (HQX.out.trans hx6)
   clear h6 hx6 y0 y1 y2 HROWX HPL HSS HMK HQX hq
   obtain ⟨wy, rfl⟩ : ∃ wy : World, wy = wc := ⟨_, rfl⟩
   have HSE2 := Lib.hid (rsellers_any _ (ls ++ [S]) wants.length wy H6.out (by omega))
   have HB5 := Lib.hid (fun h : isSellersB wants.length (ls ++ [S]) = true => (show SellersB (ls ++ [S]) wants from sellersB_iff.1 (by rw [HI3.out, h]; rfl)))
   have HBX := Lib.hid (fun (h : isSellersB wants.length (ls ++ [S]) = true) W1 (hx : Ext wy W1) => (Buy_any _ _ (ls ++ [S]) wants W1 (H6.out.ext hx) (HIN.out W1 (HQ6.out.trans hx)).2.1).mono (fun e w' q => buy_n (show BuyRes (ls ++ [S]) wants W1 e w' from q) (sellers_areS (HB5.out h))))
   have HL6 := Lib.hid (show (ls ++ [S]).length = ls.length + 1 by simp)
   generalize hb5 : isSellersB wants.length (ls ++ [S]) = b5 at HSE2 HB5 HBX
   clear hb5
   go_upto_if 72 with (go_at_call 35; refine HSE2.out.mono ?_; rintro e w8 ⟨rfl, hx⟩; have HX8 := Lib.hid hx; clear hx)
   clear HSE2
   go_cut [17, 18, 19] from 73 to 98 (fun s17 s18 s19 W1 => Ext wy W1)
   case first =>
    cases b5 with
    | false =>
     go_wp2
     go_meet
     case rel => exact HX8.out
    | true =>
     have HBX := Lib.hid (HBX.out rfl _ HX8.out)
     rcases HBF.out with rfl | rfl
     ·obtain ⟨y, hy, hbe⟩ : ∃ y, buyB ls wants = some y ∧ bc = y.2.1 := by
       rcases HBN.out with ⟨y, h1, h2⟩ | ⟨_, h2⟩
       ·cases h2; exact ⟨y, h1, rfl⟩
       ·cases h2
      obtain ⟨z, hz, hzl⟩ := stocks_seller HSB.out (HB5.out rfl) hy
      have hzn : buyN (ls ++ [S]) wants = (z.2.1, 0) := by unfold buyN; rw [hz]
      rw [hzn] at HBX
      have g1 : decide (bc < z.2.1) = false := by rw [hbe]; simp; omega
      generalize z.2.1 = zc at *
      clear hy hbe hz hzl hzn
      go_wp2_with (go_at_call 33; refine HBX.out.mono ?_; rintro e w9 ⟨bu, rfl, hx9⟩)
      go_meet
      case rel => exact HX8.out.trans hx9
     ·rcases buyN_or (ls ++ [S]) wants with ⟨z, _, hz⟩ | ⟨_, hz⟩
      ·rw [hz] at HBX
       generalize z.2.1 = zc at *
       clear hz
       go_wp2_with (go_at_call 33; refine HBX.out.mono ?_; rintro e w9 ⟨bu, rfl, hx9⟩)
       go_meet
       case rel => exact HX8.out.trans hx9
      ·rw [hz] at HBX
       clear hz
       go_wp2_with (go_at_call 33; refine HBX.out.mono ?_; rintro e w9 ⟨bu, rfl, hx9⟩)
       go_meet
       case rel => exact HX8.out.trans hx9
   case rest =>
    have HQ9 := Lib.hid (HQ6.out.trans hcut)
    clear HBX HB5 HX8 H6 HL6 hcut HQ6
    obtain ⟨wz, rfl⟩ : ∃ wz : World, wz = wc := ⟨_, rfl⟩
    have HKZ := Lib.hid (HKN.out wz HQ9.out)
    by_cases k1 : seller < 0
    ·have z1 : decide (seller < 0) = true := by simpa using k1
     clear k1
     go_wp2_with (go_at_call 15; refine HKZ.out.mono ?_; rintro e w' ⟨rfl, hx⟩)
     go_ret
     exact ⟨rfl, HX0.out.trans (HQ9.out.trans hx)⟩
    have z1 : decide (seller < 0) = false := by simpa using k1
    by_cases k2 : (ls.length : Int) ≤ seller
    ·have z2 : decide ((ls.length : Int) ≤ seller) = true := by simpa using k2
     clear k1 k2
     go_wp2_with (go_at_call 15; refine HKZ.out.mono ?_; rintro e w' ⟨rfl, hx⟩)
     go_ret
     exact ⟨rfl, HX0.out.trans (HQ9.out.trans hx)⟩
    have z2 : decide ((ls.length : Int) ≤ seller) = false := by simpa using k2
    by_cases k3 : good < 0
    ·have z3 : decide (good < 0) = true := by simpa using k3
     clear k1 k2 k3
     go_wp2_with (go_at_call 15; refine HKZ.out.mono ?_; rintro e w' ⟨rfl, hx⟩)
     go_ret
     exact ⟨rfl, HX0.out.trans (HQ9.out.trans hx)⟩
    have z3 : decide (good < 0) = false := by simpa using k3
    by_cases k4 : (wants.length : Int) ≤ good
    ·have z4 : decide ((wants.length : Int) ≤ good) = true := by simpa using k4
     clear k1 k2 k3 k4
     go_wp2_with (go_at_call 15; refine HKZ.out.mono ?_; rintro e w' ⟨rfl, hx⟩)
     go_ret
     exact ⟨rfl, HX0.out.trans (HQ9.out.trans hx)⟩
    have z4 : decide ((wants.length : Int) ≤ good) = false := by simpa using k4
    by_cases k5 : more < 0
    ·have z5 : decide (more < 0) = true := by simpa using k5
     clear k1 k2 k3 k4 k5
     go_wp2_with (go_at_call 15; refine HKZ.out.mono ?_; rintro e w' ⟨rfl, hx⟩)
     go_ret
     exact ⟨rfl, HX0.out.trans (HQ9.out.trans hx)⟩
    have z5 : decide (more < 0) = false := by simpa using k5
    obtain ⟨i, hi⟩ : ∃ i : Nat, seller = (i : Int) := ⟨seller.toNat, by omega⟩
    obtain ⟨g, hg⟩ : ∃ g : Nat, good = (g : Int) := ⟨good.toNat, by omega⟩
    subst hi hg
    have hil : i < ls.length := by omega
    have hgl : g < wants.length := by omega
    obtain ⟨xa, xc, hve, _, _, h3⟩ := RowOf.open3 (f := slrC) (f0 := fun r => .int .i64 r.s.parcel) (f1 := SlR.st) (f2 := SlR.pr) (fun _ => rfl) HROW.out
    have hrl := HRL.out
    obtain ⟨lb, lo, r, hla, hrk, -, c1, -⟩ := h3 i (by omega)
    injection hve with e1 e2 e3
    clear e2 e3
    subst e1
    subst hla
    obtain ⟨hrs, hrp⟩ := HRI.out r (List.mem_of_getElem? hrk.out)
    have hlk : ls[i]? = some r.s := by rw [← HROWS.out, List.getElem?_map, hrk.out]; rfl
    have hso := HSB.out.one r.s (List.mem_of_getElem? hlk)
    have HSTK := Lib.hid hrs
    obtain ⟨ta, tc, hte, t8, t9, ht3⟩ := hrs.open
    have hkl : g < r.s.stock.length := by omega
    obtain ⟨tb, to_, v, hta, hvk, c2⟩ := ht3 g hkl
    subst hta
    rw [hte] at c1 HSTK
    have hvb := hso.2.2.2.1 v (List.mem_of_getElem? hvk.out)
    have hgd : r.s.stock.getD g 0 = v := by rw [List.getD_eq_getElem?_getD, hvk.out]; rfl
    have m1 := (HX0.out.trans HQ9.out).cell c1
    have m2 := (HX0.out.trans HQ9.out).cell c2
    have i1 : (0 : Int) ≤ (i : Int) := by omega
    have i2 : (i : Int) < (ls.length : Int) := by omega
    have i3 : (0 : Int) ≤ (g : Int) := by omega
    have i4 : (g : Int) < (wants.length : Int) := by omega
    have i5 : (g : Int) < (r.s.stock.length : Int) := by omega
    have hw1 : IntKind.i64.wrap (100 - v) = 100 - v := IntWalk.i64_in _ (by omega)
    by_cases k6 : 100 - v < more
    ·have z6 : decide (100 - v < more) = true := by simpa using k6
     clear k1 k2 k3 k4 k5 k6 hil hgl hrl hlk hso hkl hvb hgd h3 ht3 hte hrs hrp hrk hvk
     go_wp2_with (go_at_call 15; refine HKZ.out.mono ?_; rintro e w' ⟨rfl, hx⟩)
     go_ret
     exact ⟨rfl, HX0.out.trans (HQ9.out.trans hx)⟩
    have z6 : decide (100 - v < more) = false := by simpa using k6
    have HW2 := Lib.hid (IntWalk.i64_in (v + more) (by omega))
    have HMS := Lib.hid (more_sellers HSB.out hlk (by omega : 0 ≤ more) (by omega : more ≤ 100 - r.s.stock.getD g 0))
    have HMM := Lib.hid (fun y (hy : buyB ls wants = some y) => stocks_more HSB.out hlk (by omega : 0 ≤ more) (by omega : more ≤ 100 - r.s.stock.getD g 0) hy)
    have HRK := Lib.hid hrk.out
    have HVK := Lib.hid hvk.out
    have HGD := Lib.hid hgd
    have HKL := Lib.hid (And.intro hkl hil)
    have HST5 := Lib.hid (show r.s.stock.length ≤ 5 by omega)
    have HRP := Lib.hid hrp
    have HC12 := Lib.hid (And.intro c1 c2)
    have HROWX := Lib.hid (show RowAt wz (.slice (some ⟨lb, lo, none⟩) ls.length lc) ls.length (rows.flatMap slrC) by have h := RowAt.ext HROW.out (HX0.out.trans HQ9.out); rwa [HRL.out] at h)
    have HPL := Lib.hid (And.intro (show (rows.flatMap slrC).length = ls.length * 3 by rw [slr_len, HRL.out]) (slr_one HRI.out))
    clear k1 k2 k3 k4 k5 k6 hil hgl hrl hlk hso hkl hvb hgd h3 ht3 hte hrs hrp hrk hvk
    go_upto_region 14 with (at_builtin; refine wpList_append_row E_sellers rfl _ _ rfl wz.heap.size rfl (World.ownsRow_nil _ _ _ _) rfl HROWX.out HPL.out.1 HPL.out.2 ?_ (by unfold maxLen; omega) (by omega) (Nat.le_refl _); intro v13 w13 hown13 hgrow13 _; have hx13 : Ext wz w13 := Ext.grown (Ext.refl wz) hgrow13 (fun k hk => by cases hk); clear hgrow13; simp only [Nat.zero_add, List.nil_append] at hown13; obtain ⟨g13, cap13, rfl, hg1, hg2⟩ := owns_some hown13 (by omega); have HO13 := Lib.hid hown13; have HX13 := Lib.hid hx13; clear hown13)
    replace m1 := hx13.cell m1
    replace m2 := hx13.cell m2
    clear hx13
    have HSTW := Lib.hid (HSTK.out.ext (HX0.out.trans (HQ9.out.trans HX13.out)))
    have hk5 := HST5.out
    have hkl := HKL.out.1
    go_upto_region 15 with (at_builtin; refine wpList_append_row E_ints rfl _ _ rfl w13.heap.size rfl (World.ownsRow_nil _ _ _ _) rfl HSTW.out (by simp) (ints_oneS _) ?_ (by unfold maxLen; omega) (by omega) (Nat.le_refl _); intro v14 w14 hown14 hgrow14 _; have hx14 : Ext w13 w14 := Ext.grown (Ext.refl w13) hgrow14 (fun k hk => by cases hk); clear hgrow14; simp only [Nat.zero_add, List.nil_append] at hown14; obtain ⟨g14, cap14, rfl, hg3, hg4⟩ := owns_some hown14 (by omega); have HO14 := Lib.hid hown14; have HX14 := Lib.hid hx14; have HO13W := Lib.hid (owns_ext HO13.out hx14); have kc := HO13W.out.cellAt (i * 3 + 1) (by have := HKL.out.2; omega); have kf := HO13W.out.frozenAt (i * 3 + 1); rw [slr_at HRK.out] at kc; clear hown14 hx14 m1 m2)
    obtain ⟨W15, hW15⟩ : ∃ W15, W15 = w14.setCell ⟨g13, i * 3 + 1, none⟩ (.slice (some ⟨g14, 0, none⟩) r.s.stock.length cap14) := ⟨_, rfl⟩
    have hnew : (rows.set i { r with s := { r.s with stock := r.s.stock.set g (r.s.stock.getD g 0 + more) }, st := .slice (some ⟨g14, 0, none⟩) r.s.stock.length cap14 })[i]? = some { r with s := { r.s with stock := r.s.stock.set g (r.s.stock.getD g 0 + more) }, st := .slice (some ⟨g14, 0, none⟩) r.s.stock.length cap14 } := List.getElem?_set_self (by have := HKL.out.2; have := HRL.out; omega)
    have hO13 : W15.ownsRow wz.heap.size 79 3 (.slice (some ⟨g13, 0, none⟩) ls.length cap13) ls.length ((rows.set i { r with s := { r.s with stock := r.s.stock.set g (r.s.stock.getD g 0 + more) }, st := .slice (some ⟨g14, 0, none⟩) r.s.stock.length cap14 }).flatMap slrC) := by
     rw [hW15, ← slr_set (r.s.stock.set g (r.s.stock.getD g 0 + more)) _ HRK.out]; exact (HO13W.out.stored (i * 3 + 1) _).1
    have hO14 : W15.ownsRow w13.heap.size 3 1 (.slice (some ⟨g14, 0, none⟩) r.s.stock.length cap14) r.s.stock.length (r.s.stock.map (.int .i64)) := by
     rw [hW15]; exact ownsRow_setCell_other HO14.out (a := ⟨g13, i * 3 + 1, none⟩) (by simp [Value.ownBlock]; omega) _
    have hx15 : Ext wz W15 := by rw [hW15]; exact (HX13.out.trans HX14.out).setCell (p := ⟨g13, i * 3 + 1, none⟩) hg1 _
    have hx16 := HX0.out.trans (HQ9.out.trans hx15)
    have f0 : W15.cell? ⟨g13, i * 3 + 1, none⟩ = some (.slice (some ⟨g14, 0, none⟩) r.s.stock.length cap14) := by rw [hO13.cellAt (i * 3 + 1) (by have := HKL.out.2; omega), slr_at hnew]
    have f1 := hx16.cell HC12.out.1
    have f2 := hx16.cell HC12.out.2
    have l0 : W15.cell? ⟨g14, g, none⟩ = some (.int .i64 v) := by rw [hO14.cellAt g (by omega), List.getElem?_map, HVK.out]; rfl
    have lf := hO14.frozenAt g
    have HO15 := Lib.hid (And.intro hO13 hO14)
    have HX15 := Lib.hid hx15
    have hs13 := HX13.out.size
    rw [← hW15]
    clear hW15 hnew hO13 hO14 hx15 hx16 kc kf HO13 HO14 HO13W HSTW HX14 HX13
    have hg5 : g13 ≠ g14 := by omega
    refine wp_region_noPanic ?_
    refine wp_region_any (by kernel_rfl) (wpAny_of_till (z := 17) (S := (fun w' => w'.cell? ⟨g13, i * 3 + 1, none⟩ = some (.slice (some ⟨g14, 0, none⟩) r.s.stock.length cap14) ∧ w'.cell? ⟨lb, lo + i * 3 + 1, none⟩ = some (.slice (some ⟨tb, to_, none⟩) r.s.stock.length tc) ∧ w'.cell? ⟨tb, to_ + g, none⟩ = some (.int .i64 v))) _ _ _ _ ?_)
    change wpTill _ _ _ _ _ _ _ _ _ W15.drew
    have hS0 := (show (World.drew W15).cell? ⟨g13, i * 3 + 1, none⟩ = some (.slice (some ⟨g14, 0, none⟩) r.s.stock.length cap14) ∧ (World.drew W15).cell? ⟨lb, lo + i * 3 + 1, none⟩ = some (.slice (some ⟨tb, to_, none⟩) r.s.stock.length tc) ∧ (World.drew W15).cell? ⟨tb, to_ + g, none⟩ = some (.int .i64 v) from ⟨f0, f1, f2⟩)
    refine till_at (i := 0) (d := some 147) (v := ?_) (by kernel_rfl) (by kernel_rfl) (by kernel_rfl) (by kernel_rfl) (by kernel_rfl) (fun _ _ _ h => h) (fun o ho => ?_) hS0 ?_
    rotate_left
    · simp only [List.getElem?_toArray, List.getElem?_cons_zero, Option.some.injEq] at ho
      subst ho
      refine Or.inl ⟨by rfl, fun w' hSw => ?_⟩
      obtain ⟨hSw0, hSw1, hSw2⟩ := hSw
      go_simp
      try with_reducible rfl
    try simp only [Act.put, List.setIfInBounds_toArray, List.set_cons_zero, List.set_cons_succ]
    refine till_at (i := 1) (d := some 148) (v := ?_) (by kernel_rfl) (by kernel_rfl) (by kernel_rfl) (by kernel_rfl) (by kernel_rfl) (fun _ _ _ h => h) (fun o ho => ?_) hS0 ?_
    rotate_left
    · simp only [List.getElem?_toArray, List.getElem?_cons_zero, List.getElem?_cons_succ, Option.some.injEq] at ho
      subst ho
      refine Or.inl ⟨by rfl, fun w' hSw => ?_⟩
      obtain ⟨hSw0, hSw1, hSw2⟩ := hSw
      go_simp
      try with_reducible rfl
    try simp only [Act.put, List.setIfInBounds_toArray, List.set_cons_zero, List.set_cons_succ]
    refine till_at (i := 2) (d := some 149) (v := ?_) (by kernel_rfl) (by kernel_rfl) (by kernel_rfl) (by kernel_rfl) (by kernel_rfl) (fun _ _ _ h => h) (fun o ho => ?_) hS0 ?_
    rotate_left
    · simp only [List.getElem?_toArray, List.getElem?_cons_zero, List.getElem?_cons_succ, Option.some.injEq] at ho
      subst ho
      refine Or.inl ⟨by rfl, fun w' hSw => ?_⟩
      obtain ⟨hSw0, hSw1, hSw2⟩ := hSw
      go_simp
      try with_reducible rfl
    try simp only [Act.put, List.setIfInBounds_toArray, List.set_cons_zero, List.set_cons_succ]
    refine till_at (i := 3) (d := some 150) (v := ?_) (by kernel_rfl) (by kernel_rfl) (by kernel_rfl) (by kernel_rfl) (by kernel_rfl) (fun _ _ _ h => h) (fun o ho => ?_) hS0 ?_
    rotate_left
    · simp only [List.getElem?_toArray, List.getElem?_cons_zero, List.getElem?_cons_succ, Option.some.injEq] at ho
      subst ho
      refine Or.inl ⟨by rfl, fun w' hSw => ?_⟩
      obtain ⟨hSw0, hSw1, hSw2⟩ := hSw
      go_simp
      try with_reducible rfl
    try simp only [Act.put, List.setIfInBounds_toArray, List.set_cons_zero, List.set_cons_succ]
    refine till_at (i := 4) (d := some 151) (v := ?_) (by kernel_rfl) (by kernel_rfl) (by kernel_rfl) (by kernel_rfl) (by kernel_rfl) (fun _ _ _ h => h) (fun o ho => ?_) hS0 ?_
    rotate_left
    · simp only [List.getElem?_toArray, List.getElem?_cons_zero, List.getElem?_cons_succ, Option.some.injEq] at ho
      subst ho
      refine Or.inl ⟨by rfl, fun w' hSw => ?_⟩
      obtain ⟨hSw0, hSw1, hSw2⟩ := hSw
      go_simp
      try with_reducible rfl
    try simp only [Act.put, List.setIfInBounds_toArray, List.set_cons_zero, List.set_cons_succ]
    refine till_at (i := 5) (d := some 152) (v := ?_) (by kernel_rfl) (by kernel_rfl) (by kernel_rfl) (by kernel_rfl) (by kernel_rfl) (fun _ _ _ h => h) (fun o ho => ?_) hS0 ?_
    rotate_left
    · simp only [List.getElem?_toArray, List.getElem?_cons_zero, List.getElem?_cons_succ, Option.some.injEq] at ho
      subst ho
      refine Or.inl ⟨by rfl, fun w' hSw => ?_⟩
      obtain ⟨hSw0, hSw1, hSw2⟩ := hSw
      go_simp
      try with_reducible rfl
    try simp only [Act.put, List.setIfInBounds_toArray, List.set_cons_zero, List.set_cons_succ]
    refine till_at (i := 6) (d := some 153) (v := ?_) (by kernel_rfl) (by kernel_rfl) (by kernel_rfl) (by kernel_rfl) (by kernel_rfl) (fun _ _ _ h => h) (fun o ho => ?_) hS0 ?_
    rotate_left
    · simp only [List.getElem?_toArray, List.getElem?_cons_zero, List.getElem?_cons_succ, Option.some.injEq] at ho
      subst ho
      refine Or.inl ⟨by rfl, fun w' hSw => ?_⟩
      obtain ⟨hSw0, hSw1, hSw2⟩ := hSw
      go_simp
      try with_reducible rfl
    try simp only [Act.put, List.setIfInBounds_toArray, List.set_cons_zero, List.set_cons_succ]
    refine till_at (i := 7) (d := some 154) (v := ?_) (by kernel_rfl) (by kernel_rfl) (by kernel_rfl) (by kernel_rfl) (by kernel_rfl) (fun _ _ _ h => h) (fun o ho => ?_) hS0 ?_
    rotate_left
    · simp only [List.getElem?_toArray, List.getElem?_cons_zero, List.getElem?_cons_succ, Option.some.injEq] at ho
      subst ho
      refine Or.inl ⟨by rfl, fun w' hSw => ?_⟩
      obtain ⟨hSw0, hSw1, hSw2⟩ := hSw
      go_simp
      try with_reducible rfl
    try simp only [Act.put, List.setIfInBounds_toArray, List.set_cons_zero, List.set_cons_succ]
    refine till_at (i := 8) (d := some 155) (v := ?_) (by kernel_rfl) (by kernel_rfl) (by kernel_rfl) (by kernel_rfl) (by kernel_rfl) (fun _ _ _ h => h) (fun o ho => ?_) hS0 ?_
    rotate_left
    · simp only [List.getElem?_toArray, List.getElem?_cons_zero, List.getElem?_cons_succ, Option.some.injEq] at ho
      subst ho
      refine Or.inl ⟨by rfl, fun w' hSw => ?_⟩
      obtain ⟨hSw0, hSw1, hSw2⟩ := hSw
      go_simp
      try with_reducible rfl
    try simp only [Act.put, List.setIfInBounds_toArray, List.set_cons_zero, List.set_cons_succ]
    refine till_at (i := 9) (d := some 156) (v := ?_) (by kernel_rfl) (by kernel_rfl) (by kernel_rfl) (by kernel_rfl) (by kernel_rfl) (fun _ _ _ h => h) (fun o ho => ?_) hS0 ?_
    rotate_left
    · simp only [List.getElem?_toArray, List.getElem?_cons_zero, List.getElem?_cons_succ, Option.some.injEq] at ho
      subst ho
      refine Or.inl ⟨by rfl, fun w' hSw => ?_⟩
      obtain ⟨hSw0, hSw1, hSw2⟩ := hSw
      go_simp
      try with_reducible rfl
    try simp only [Act.put, List.setIfInBounds_toArray, List.set_cons_zero, List.set_cons_succ]
    refine till_at (i := 10) (d := some 157) (v := ?_) (by kernel_rfl) (by kernel_rfl) (by kernel_rfl) (by kernel_rfl) (by kernel_rfl) (fun _ _ _ h => h) (fun o ho => ?_) hS0 ?_
    rotate_left
    · simp only [List.getElem?_toArray, List.getElem?_cons_zero, List.getElem?_cons_succ, Option.some.injEq] at ho
      subst ho
      refine Or.inl ⟨by rfl, fun w' hSw => ?_⟩
      obtain ⟨hSw0, hSw1, hSw2⟩ := hSw
      go_simp
      try with_reducible rfl
    try simp only [Act.put, List.setIfInBounds_toArray, List.set_cons_zero, List.set_cons_succ]
    refine till_at (i := 11) (d := some 158) (v := ?_) (by kernel_rfl) (by kernel_rfl) (by kernel_rfl) (by kernel_rfl) (by kernel_rfl) (fun _ _ _ h => h) (fun o ho => ?_) hS0 ?_
    rotate_left
    · simp only [List.getElem?_toArray, List.getElem?_cons_zero, List.getElem?_cons_succ, Option.some.injEq] at ho
      subst ho
      refine Or.inl ⟨by rfl, fun w' hSw => ?_⟩
      obtain ⟨hSw0, hSw1, hSw2⟩ := hSw
      go_simp
      try with_reducible rfl
    try simp only [Act.put, List.setIfInBounds_toArray, List.set_cons_zero, List.set_cons_succ]
    refine till_at (i := 12) (d := some 159) (v := ?_) (by kernel_rfl) (by kernel_rfl) (by kernel_rfl) (by kernel_rfl) (by kernel_rfl) (fun _ _ _ h => h) (fun o ho => ?_) hS0 ?_
    rotate_left
    · simp only [List.getElem?_toArray, List.getElem?_cons_zero, List.getElem?_cons_succ, Option.some.injEq] at ho
      subst ho
      refine Or.inl ⟨by rfl, fun w' hSw => ?_⟩
      obtain ⟨hSw0, hSw1, hSw2⟩ := hSw
      go_simp
      try with_reducible rfl
    try simp only [Act.put, List.setIfInBounds_toArray, List.set_cons_zero, List.set_cons_succ]
    refine till_at (i := 13) (d := some 160) (v := ?_) (by kernel_rfl) (by kernel_rfl) (by kernel_rfl) (by kernel_rfl) (by kernel_rfl) (fun _ _ _ h => h) (fun o ho => ?_) hS0 ?_
    rotate_left
    · simp only [List.getElem?_toArray, List.getElem?_cons_zero, List.getElem?_cons_succ, Option.some.injEq] at ho
      subst ho
      refine Or.inl ⟨by rfl, fun w' hSw => ?_⟩
      obtain ⟨hSw0, hSw1, hSw2⟩ := hSw
      go_simp
      try with_reducible rfl
    try simp only [Act.put, List.setIfInBounds_toArray, List.set_cons_zero, List.set_cons_succ]
    refine till_at (i := 14) (d := some 161) (v := ?_) (by kernel_rfl) (by kernel_rfl) (by kernel_rfl) (by kernel_rfl) (by kernel_rfl) (fun _ _ _ h => h) (fun o ho => ?_) hS0 ?_
    rotate_left
    · simp only [List.getElem?_toArray, List.getElem?_cons_zero, List.getElem?_cons_succ, Option.some.injEq] at ho
      subst ho
      refine Or.inl ⟨by rfl, fun w' hSw => ?_⟩
      obtain ⟨hSw0, hSw1, hSw2⟩ := hSw
      go_simp
      try with_reducible rfl
    try simp only [Act.put, List.setIfInBounds_toArray, List.set_cons_zero, List.set_cons_succ]
    refine till_at (i := 15) (d := some 162) (v := ?_) (by kernel_rfl) (by kernel_rfl) (by kernel_rfl) (by kernel_rfl) (by kernel_rfl) (fun _ _ _ h => h) (fun o ho => ?_) hS0 ?_
    rotate_left
    · simp only [List.getElem?_toArray, List.getElem?_cons_zero, List.getElem?_cons_succ, Option.some.injEq] at ho
      subst ho
      refine Or.inl ⟨by rfl, fun w' hSw => ?_⟩
      obtain ⟨hSw0, hSw1, hSw2⟩ := hSw
      go_simp
      try rw [HW2.out]
      try with_reducible rfl
    try simp only [Act.put, List.setIfInBounds_toArray, List.set_cons_zero, List.set_cons_succ]
    refine till_at (i := 16) (d := some 163) (v := ?_) (by kernel_rfl) (by kernel_rfl) (by kernel_rfl) (by kernel_rfl) (by kernel_rfl) (fun _ _ _ h => h) (fun o ho => ?_) hS0 ?_
    rotate_left
    · simp only [List.getElem?_toArray, List.getElem?_cons_zero, List.getElem?_cons_succ, Option.some.injEq] at ho
      subst ho
      refine Or.inl ⟨by rfl, fun w' hSw => ?_⟩
      obtain ⟨hSw0, hSw1, hSw2⟩ := hSw
      go_simp
      try with_reducible rfl
    try simp only [Act.put, List.setIfInBounds_toArray, List.set_cons_zero, List.set_cons_succ]
    refine till_step (i := 17) (by kernel_rfl) (by kernel_rfl) (fun o ho K' hK => ?_)
    simp only [List.getElem?_toArray, List.getElem?_cons_zero, List.getElem?_cons_succ, Option.some.injEq] at ho
    subst ho
    go_simp
    refine hK.out _ _ (fun h => absurd rfl h) (fun _ => ?_)
    clear hK K'
    try simp only [Act.put, List.setIfInBounds_toArray, List.set_cons_zero, List.set_cons_succ]
    refine till_done (by kernel_rfl) ?_ _
    refine NoPanic.normal ?_
    try simp only [Act.put, List.setIfInBounds_toArray, List.set_cons_zero, List.set_cons_succ]
    obtain ⟨WZ, hWZ⟩ : ∃ WZ, WZ = (W15.setCell ⟨g14, g, none⟩ (.int .i64 (v + more))).drew := ⟨_, rfl⟩
    have hxz : Ext wz WZ := by rw [hWZ]; exact (HX15.out.setCell (p := ⟨g14, g, none⟩) (show wz.heap.size ≤ g14 by omega) _).drew
    have hTZ : Touch (· = g14) W15 WZ := by rw [hWZ]; exact (Touch.setCell (M := (· = g14)) (a := ⟨g14, g, none⟩) (.int .i64 (v + more)) rfl).trans (Touch.of_ext (Ext.refl _).drew)
    have hI14 : IntsAt WZ (.slice (some ⟨g14, 0, none⟩) r.s.stock.length cap14) (r.s.stock.set g (v + more)) := by
     have h := RowAt.of_owns (owns_ext (HO15.out.2.stored g (.int .i64 (v + more))).1 (Ext.refl _).drew)
     unfold IntsAt
     rw [List.length_set, List.map_set, hWZ]
     exact h
    have hSY : SellersAt WZ (.slice (some ⟨g13, 0, none⟩) ls.length cap13) (moreStock ls i g more) := by
     refine ⟨rows.set i { r with s := { r.s with stock := r.s.stock.set g (r.s.stock.getD g 0 + more) }, st := .slice (some ⟨g14, 0, none⟩) r.s.stock.length cap14 }, ?_, ?_, ?_⟩
     ·rw [more_map HRK.out, HROWS.out]
     ·unfold RowOf
      rw [List.length_set, HRL.out]
      exact (RowAt.of_owns HO15.out.1).touchS hTZ (fun b o len cap h hm => by cases h; exact hg5 hm)
     ·intro q hq2
      rcases List.mem_or_eq_of_mem_set hq2 with h1 | h1
      ·exact ⟨(HRI.out q h1).1.ext (HX0.out.trans (HQ9.out.trans hxz)), (HRI.out q h1).2.ext (HX0.out.trans (HQ9.out.trans hxz))⟩
      ·rw [h1]
       refine ⟨?_, HRP.out.ext (HX0.out.trans (HQ9.out.trans hxz))⟩
       simp only [HGD.out]
       exact hI14
    have HBY := Lib.hid ((Buy_any _ _ (moreStock ls i g more) wants WZ hSY (HIN.out WZ (HQ9.out.trans hxz)).2.1).mono (fun e w' q => buy_n (show BuyRes (moreStock ls i g more) wants WZ e w' from q) (sellers_areS HMS.out)))
    have HKY := Lib.hid (fun W2 (h : Ext WZ W2) => HKN.out W2 (HQ9.out.trans (hxz.trans h)))
    have HXF := Lib.hid (HX0.out.trans (HQ9.out.trans hxz))
    rw [← hWZ]
    clear hWZ hTZ hI14 hSY hxz f0 f1 f2 l0 lf HO15 HX15 hs13 hg5 hk5 hkl
    rcases HBF.out with rfl | rfl
    ·obtain ⟨y, hy, hbe⟩ : ∃ y, buyB ls wants = some y ∧ bc = y.2.1 := by
      rcases HBN.out with ⟨y, h1, h2⟩ | ⟨_, h2⟩
      ·cases h2; exact ⟨y, h1, rfl⟩
      ·cases h2
     obtain ⟨z, hz, hzl⟩ := HMM.out y hy
     have hzn : buyN (moreStock ls i g more) wants = (z.2.1, 0) := by unfold buyN; rw [hz]
     rw [hzn] at HBY
     have g1 : decide (z.2.1 ≤ bc) = true := by rw [hbe]; simp; omega
     generalize z.2.1 = zc at *
     clear hy hbe hz hzl hzn
     go_wp2_with (first | (go_at_call 33; refine HBY.out.mono ?_; rintro e w9 ⟨bu, rfl, hx9⟩; clear HBY) | (go_at_call 15; refine (HKY.out _ hx9).mono ?_; rintro e w' ⟨rfl, hx⟩))
     go_ret
     exact ⟨rfl, HXF.out.trans (hx9.trans hx)⟩
    ·rcases buyN_or (moreStock ls i g more) wants with ⟨z, _, hz⟩ | ⟨_, hz⟩
     ·rw [hz] at HBY
      generalize z.2.1 = zc at *
      clear hz
      go_wp2_with (first | (go_at_call 33; refine HBY.out.mono ?_; rintro e w9 ⟨bu, rfl, hx9⟩; clear HBY) | (go_at_call 15; refine (HKY.out _ hx9).mono ?_; rintro e w' ⟨rfl, hx⟩))
      go_ret
      exact ⟨rfl, HXF.out.trans (hx9.trans hx)⟩
     ·rw [hz] at HBY
      clear hz
      go_wp2_with (first | (go_at_call 33; refine HBY.out.mono ?_; rintro e w9 ⟨bu, rfl, hx9⟩; clear HBY) | (go_at_call 15; refine (HKY.out _ hx9).mono ?_; rintro e w' ⟨rfl, hx⟩))
      go_ret
      exact ⟨rfl, HXF.out.trans (hx9.trans hx)⟩

end Go.Proofs.YtpebafaigldldaaGreatDoor
