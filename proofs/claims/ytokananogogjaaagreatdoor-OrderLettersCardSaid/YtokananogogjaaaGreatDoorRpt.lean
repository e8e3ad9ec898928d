/- The reference's Print: the text of a book. -/
import Derived.Test.YtokananogogjaaaGreatDoorOtx
import Derived.Laws.IdiomStrings
namespace Go.Proofs.YtokananogogjaaaGreatDoor
open Go.RowKit
theorem str_step3 (a b : List UInt8) : Value.string ((({ data := a.toArray } : ByteArray) ++ ({ data := #[32] } : ByteArray)) ++ ({ data := b.toArray } : ByteArray)) = strV (a ++ (32 :: b)) := by
 rw [show (({ data := #[32] } : ByteArray)) = { data := ([32] : List UInt8).toArray } from rfl, ba_app, ba_app, List.append_assoc]; rfl
theorem str_two (a b : List UInt8) : Value.string (({ data := a.toArray } : ByteArray) ++ ({ data := b.toArray } : ByteArray)) = strV (a ++ b) := by rw [ba_app]
theorem rdown_str (J l : List UInt8) : Value.string ((({ data := J.toArray } : ByteArray) ++ ({ data := l.toArray } : ByteArray)) ++ ({ data := #[10] } : ByteArray)) = strV (J ++ (l ++ [10])) := by
 rw [show (({ data := #[10] } : ByteArray)) = { data := ([10] : List UInt8).toArray } from rfl, ba_app, ba_app]
 simp
/-- A byte alone, as a string. -/
theorem conv_one (w : World) (x : Int) (b : UInt8) (hb : (b.toNat : Int) = x) : (convert 177 9 (.slice (some ⟨w.heap.size, 0, none⟩) 1 1)).run Tryz.prog (w.alloc (.cells #[.int .u8 x] 5)) = .ok (strV [b]) (w.alloc (.cells #[.int .u8 x] 5)) := by
 refine run_convert_bytes_back (P := Tryz.prog) _ 177 9 5 ⟨w.heap.size, 0, none⟩ 1 [b] (by kernel_rfl) (by kernel_rfl) Tryz.underlying9 (fun j hj => ?_)
 have : j = 0 := by simpa using hj
 subst this
 subst hb
 have h := World.alloc_heap_new w (.cells #[.int .u8 (b.toNat : Int)] 5)
 show World.cell? _ (⟨w.heap.size, 0, none⟩ : Addr) = _
 unfold World.cell?
 simp only [h]
 rfl
set_option maxRecDepth 100000 in
set_option maxHeartbeats 4000000 in
theorem rdec_any (n : Nat) (w : World) (hn : n ≤ 1000000000000) : Calls Tryz.prog 79 #[.int .i64 (n : Int)] w fun e w' => e = .returned (strV (Lib.itoa (n : Int))) ∧ Ext w w' := by
 have hmix : Tryz.prog.follows .mixedOrders = true := by kernel_rfl
 have hL := Lib.itoa_length_le (n : Int) (by omega) (by omega)
 have hI : Lib.itoa (n : Int) = decHead n ++ [digitB n] := by rw [Lib.itoa_nonneg]; exact dec_last n
 have t0 : decide ((n : Int) < 0) = false := by simp
 have E1 : IntKind.i64.wrap (48 + (n : Int) % 10) = 48 + (n : Int) % 10 := IntWalk.i64_in _ (by omega)
 have E2 : IntKind.u8.wrap (48 + (n : Int) % 10) = 48 + (n : Int) % 10 := by rw [IntKind.wrap_u8]; omega
 have C1 := fun w => conv_one w (48 + (n : Int) % 10) (digitB n) (by rw [digitB_nat]; omega)
 have HI := Lib.hid hI
 go_enter Tryz.func79, Tryz.ntmps79
 go_wp2
 go_loopw [0, 3] (fun nv sv wr => ∃ (m : Nat) (q : List UInt8), m ≤ n ∧ nv = .int .i64 (m : Int) ∧ sv = strV q ∧ Hid (Lib.itoa (n : Int) = decHead m ++ q) ∧ q.length ≤ 21 ∧ Ext w wr) (fun nv _ _ => (intOf nv).toNat)
 case atStart => exact ⟨n, [digitB n], Nat.le_refl _, rfl, rfl, HI.out, by simp, (Ext.refl w).alloc _⟩
 case round =>
  obtain ⟨m, q, hm, rfl, rfl, hq, hql, hx⟩ := hrel
  by_cases h10 : m < 10
  ·have x1 : decide (10 ≤ (m : Int)) = false := by simp; omega
   have x2 : decide (10 ≤ m) = false := by simp; omega
   have HE : Hid (Lib.itoa (n : Int) = q) := by unfold Hid; rw [hq.out, dec_end h10]
   go_wp2
   go_ret
   exact ⟨by rw [HE.out]; rfl, hx⟩
  ·have x1 : decide (10 ≤ (m : Int)) = true := by simp; omega
   have x2 : decide (10 ≤ m) = true := by simp; omega
   obtain ⟨m', hm'⟩ : ∃ m', m / 10 = m' := ⟨_, rfl⟩
   have HQ : Hid (Lib.itoa (n : Int) = decHead m' ++ (digitB m' :: q)) := by unfold Hid; rw [hq.out, dec_step h10, hm']
   have hl2 : (digitB m' :: q).length ≤ 21 := by
    have h1 := congrArg List.length HQ.out
    rw [List.length_append] at h1
    omega
   have hl3 : ¬ 9223372036854775807 < 1 + q.length := by omega
   have e0 : (m : Int) / 10 = (m' : Int) := by omega
   have hmm : m' ≤ n ∧ m' < m := by omega
   have HMM := Lib.hid hmm
   have C2 := fun w => conv_one w (48 + (m' : Int) % 10) (digitB m') (by rw [digitB_nat]; omega)
   have E3 : IntKind.i64.wrap (48 + (m' : Int) % 10) = 48 + (m' : Int) % 10 := IntWalk.i64_in _ (by omega)
   have E4 : IntKind.u8.wrap (48 + (m' : Int) % 10) = 48 + (m' : Int) % 10 := by rw [IntKind.wrap_u8]; omega
   have HST := Lib.hid str_two
   clear hm' hmm
   go_wp2
   refine ⟨⟨m', digitB m' :: q, HMM.out.1, rfl, HST.out [digitB m'] q, HQ.out, hl2, hx.alloc _⟩, ?_⟩
   have := HMM.out.2
   simp [intOf]; omega
theorem rdecI_any (y : Int) (w : World) (h0 : 0 ≤ y) (h1 : y ≤ 1000000000000) : Calls Tryz.prog 79 #[.int .i64 y] w fun e w' => e = .returned (strV (Lib.itoa y)) ∧ Ext w w' := by
 obtain ⟨n, rfl⟩ := Int.eq_ofNat_of_zero_le h0
 exact rdec_any n w (by omega)
theorem numsT_step {ns : List Int} {k : Nat} {y : Int} (hy : ns[k]? = some y) : numsT (ns.take (k + 1)) = numsT (ns.take k) ++ (32 :: Lib.itoa y) := by
 unfold numsT; rw [List.take_add_one, hy]; simp
set_option maxRecDepth 100000 in
set_option maxHeartbeats 4000000 in
theorem rwords_any (v : Value) (ns : List Int) (w : World) (hv : IntsAt w v ns) (hb : Small ns) (hn : ns.length ≤ 3) :
 Calls Tryz.prog 78 #[v] w fun e w' => e = .returned (strV (numsT ns)) ∧ Ext w w' := by
 obtain ⟨a, c, rfl, h1, h2, h3⟩ := hv.open
 have H3 := Lib.hid h3
 have HB := Lib.hid hb
 clear hv h3 hb
 go_enter Tryz.func78, Tryz.ntmps78
 go_wp2
 go_loopw [3, 4] (fun sv i wr => ∃ k : Nat, k ≤ ns.length ∧ i = .int .i64 k ∧ sv = strV (numsT (ns.take k)) ∧ Ext w wr) (fun _ i _ => ns.length - (intOf i).toNat)
 case atStart => exact ⟨0, Nat.zero_le _, rfl, by simp [numsT], Ext.refl _⟩
 case round =>
  obtain ⟨k, hk, rfl, rfl, hx⟩ := hrel
  by_cases hlt : k < ns.length
  ·obtain ⟨b, o, y, rfl, hy, hc⟩ := H3.out k hlt
   obtain ⟨y0, y1⟩ := HB.out y (List.mem_of_getElem? hy.out)
   have hc' := hx.cell hc
   have x2 : decide ((k : Int) < (ns.length : Int)) = true := by simpa using hlt
   have hl1 : (numsT (ns.take k)).length ≤ 9 := by
    have := numsT_small (ns := ns.take k) (fun y hy => HB.out y (List.mem_of_mem_take hy))
    rw [List.length_take] at this
    omega
   have hl2 := Lib.itoa_length_le y (by omega) (by omega)
   have hd1 : ¬ 9223372036854775807 < (numsT (ns.take k)).length + 1 := by omega
   have hd2 : ¬ 9223372036854775807 < (numsT (ns.take k)).length + 1 + (Lib.itoa y).length := by omega
   have HST := Lib.hid (numsT_step hy.out)
   have HD := Lib.hid (fun w1 => rdecI_any y w1 y0 (by omega))
   clear hc hl1 hl2 y0 y1
   go_wp2_with (go_at_call 79; refine (HD.out _).mono ?_; rintro e w3 ⟨rfl, hx3⟩)
   exact ⟨⟨k + 1, by omega, by go_num, by rw [HST.out]; exact str_step3 _ _, hx.trans hx3⟩, by simp [intOf]; omega⟩
  ·have hke : k = ns.length := by omega
   subst hke
   have x2 : decide ((ns.length : Int) < (ns.length : Int)) = false := by simp
   have HT : Hid (ns.take ns.length = ns) := List.take_of_length_le (Nat.le_refl _)
   go_wp2
   go_ret
   exact ⟨by rw [HT.out]; rfl, hx⟩
theorem E_strs : Elem Tryz.prog 143 9 1 16 (.string ⟨#[]⟩) := by
 obtain ⟨i, h1, h2, h3, h4⟩ := info_parts (show (Tryz.prog.info? 9).map (fun i => (i.zero, i.size, i.bytes)) = some (some (.string ⟨#[]⟩), 1, 16) by kernel_rfl)
 exact ⟨Tryz.underlying143, ⟨i, h1, h2, h3, h4⟩, rfl, by decide⟩
theorem ints_new (w : World) (ns : List Int) (n : Nat) (hn : n = ns.length) (hm : n ≤ 1000) : IntsAt (w.alloc (.cells (ns.map (.int .i64)).toArray 3)) (.slice (some ⟨w.heap.size, 0, none⟩) n n) ns := by
 subst hn
 have := RowAt.new w (ns.map (.int .i64)).toArray 3 ns.length ns.length (Nat.le_refl _) (by unfold maxLen; omega)
 exact this
def strL (l : Ln) : Value := strV l.text
set_option maxRecDepth 100000 in
set_option maxHeartbeats 8000000 in
theorem rprint_any (v : Value) (b : Book) (w : World) (hb : BookAt w v b) (hB : TextSmall b) :
  Calls Tryz.prog 42 #[v] w fun e w' => e = .returned (strV (textT b)) ∧ Ext w w' := by
 obtain ⟨gv, ev, rfl, hg, he⟩ := hb
 obtain ⟨ga, gc, rfl, g1, g2, g3⟩ := hg.open
 obtain ⟨ea, ec, rfl, e1, e2, e3⟩ := RowOf.open3 (f := entryC) (f0 := fun x => .int .i64 x.1) (f1 := fun x => .int .i64 x.2.1) (f2 := fun x => .int .i64 x.2.2) (fun _ => rfl) he
 obtain ⟨W1, HW⟩ : ∃ W1, Hid (W1 = w.alloc (bookBox (.slice ga b.goods.length gc) b (.slice ea b.entries.length ec))) := ⟨_, rfl⟩
 have hx1 : Ext w W1 := by rw [HW.out]; exact (Ext.refl w).alloc _
 have HB : Hid (∀ W, Ext W1 W → BoxAt W w.heap.size (.slice ga b.goods.length gc) b (.slice ea b.entries.length ec)) := fun W h => BoxAt.ext (by rw [HW.out]; exact BoxAt.new w _ b _) h
 have HG := Lib.hid g3
 have HE := Lib.hid e3
 have HF := Lib.hid hB.2
 have HLS := Lib.hid (lines_short hB.1)
 have HWD : Hid (∀ (v : Value) (l : Ln), l ∈ lnsB b → ∀ W, IntsAt W v l.nums → Calls Tryz.prog 78 #[v] W fun e w' => e = .returned (strV (numsT l.nums)) ∧ Ext W w' ∧ (numsT l.nums).length ≤ 9) := fun v l hl W hi => by
  have hs : Small l.nums := by
   unfold lnsB at hl
   simp only [List.mem_cons, List.mem_append, List.mem_map] at hl
   rcases hl with rfl | ⟨x, hx, rfl⟩ | ⟨x, hx, rfl⟩
   ·exact hB.1.hd
   ·exact small_one (hB.1.gd x hx)
   ·exact hB.1.en x hx
  have hn : l.nums.length ≤ 3 := by cases l <;> simp [Ln.nums, entN]
  refine (rwords_any v l.nums W hi hs hn).mono fun e w' h => ⟨h.1, h.2, ?_⟩
  have := numsT_small hs
  omega
 have HH := Lib.hid (fun W => HWD.out (.slice (some ⟨W.heap.size, 0, none⟩) 2 2) (.head b.editions b.moves) (by unfold lnsB; simp) (W.alloc (.cells #[.int .i64 b.editions, .int .i64 b.moves] 3)) (ints_new W [b.editions, b.moves] 2 rfl (by omega)))
 clear g3 e3 hB hg he
 go_enter Tryz.func42, Tryz.ntmps42
 go_upto_region 1 with fail
 rw [← HW.out]
 obtain ⟨b0, b1, b2, b3⟩ := HB.out W1 (Ext.refl _)
 go_upto_region 2 with (go_at_call 78; refine (HH.out _).mono ?_; rintro e w2 ⟨rfl, hx2, hl2⟩)
 rw [show Value.string (({ data := #[98, 111, 111, 107] } : ByteArray) ++ ({ data := (numsT (Ln.head b.editions b.moves).nums).toArray } : ByteArray)) = strL (.head b.editions b.moves) from str_two wBook _]
 have hx12 : Ext W1 w2 := ((Ext.refl W1).alloc _).trans hx2
 have HO := Lib.hid (owns_one (w := w2) (base := W1.heap.size) (e := 9) (strL (.head b.editions b.moves)) hx12.size)
 have HXA := Lib.hid (hx12.alloc (.cells #[strL (.head b.editions b.moves)] 9))
 clear hx2 hl2 hx12 b0 b1 b2 b3
 go_wp2_with fail
 go_loopw [3, 4] (fun o j wr => ∃ k : Nat, k ≤ b.goods.length ∧ j = .int .i64 (k : Int) ∧ wr.ownsRow W1.heap.size 9 1 o (k + 1) ((lnsG b k).map strL) ∧ Ext W1 wr ∧ W1.heap.size ≤ wr.heap.size) (fun _ j _ => b.goods.length - (intOf j).toNat)
 case atStart => exact ⟨0, Nat.zero_le _, rfl, HO.out, HXA.out, HXA.out.size⟩
 case round =>
  obtain ⟨k, hk, rfl, hown, hx, hsz⟩ := hrel
  obtain ⟨hn1, hn2⟩ := HF.out
  have HSZ : Hid (k + 1 + 1 ≤ maxLen ∧ (k + 1 + 1) * 16 ≤ 140737488355328) := by unfold Hid maxLen; omega
  have HOW := Lib.hid hown
  clear hown
  obtain ⟨wo, rfl⟩ : ∃ wo : World, wo = wr := ⟨_, rfl⟩
  obtain ⟨b0, b1, b2, b3⟩ := HB.out wo hx
  by_cases hlt : k < b.goods.length
  ·obtain ⟨bk, o, x, rfl, hxk, q0⟩ := HG.out k hlt
   have d0 := (hx1.trans hx).cell q0
   have i1 : (0 : Int) ≤ (k : Int) := by omega
   have i2 : (k : Int) < (b.goods.length : Int) := by omega
   have x2 : decide ((k : Int) < (b.goods.length : Int)) = true := by simpa using hlt
   have HUP := Lib.hid (lnsG_succ hxk.out)
   have HQ : Hid (Value.string (({ data := #[103, 111, 111, 100] } : ByteArray) ++ ({ data := (numsT (Ln.good x).nums).toArray } : ByteArray)) = strL (.good x)) := str_two wGood _
   have HH1 := Lib.hid (HWD.out (.slice (some ⟨wo.heap.size, 0, none⟩) 1 1) (.good x) (by unfold lnsB; simp; exact List.mem_of_getElem? hxk.out) (wo.alloc (.cells #[.int .i64 x] 3)) (ints_new wo [x] 1 rfl (by omega)))
   have HX := Lib.hid hx
   clear q0 hx
   go_wp2_with (first
    | (go_at_call 78; refine HH1.out.mono ?_; rintro e w3 ⟨rfl, hx3, hl3⟩; have hx4 : Ext wo w3 := ((Ext.refl wo).alloc _).trans hx3)
    | (at_builtin; refine wpList_push_at E_strs rfl _ _ rfl W1.heap.size rfl (owns_ext HOW.out hx4) rfl (by simp) rfl (by simp [Value.oneCell']) ?_ HSZ.out.1 HSZ.out.2 (Nat.le_trans hsz hx4.size); intro g cap w5 hown' hext hgr _))
   go_roundw
   case rel => exact ⟨k + 1, by omega, by go_num, by rw [HUP.out, List.map_append]; have h := hown'; rw [HQ.out] at h; exact h, hext _ (HX.out.trans hx4) (Nat.le_refl _), (hext _ (HX.out.trans hx4) (Nat.le_refl _)).size⟩
   case measure => simp [intOf]; omega
  ·have hke : k = b.goods.length := by omega
   subst hke
   have x2 : decide ((b.goods.length : Int) < (b.goods.length : Int)) = false := by simp
   have HO2 : Hid (wo.ownsRow W1.heap.size 9 1 u3 (b.goods.length + 0 + 1) ((lnsE b 0).map strL)) := by
    have := HOW.out
    unfold lnsG at this
    rw [List.take_length] at this
    unfold lnsE
    simpa [Hid] using this
   go_wp2_with fail
   clear b0 b1 b2 b3
   go_loopw [3, 5] (fun o j wr => ∃ k : Nat, k ≤ b.entries.length ∧ j = .int .i64 (k : Int) ∧ wr.ownsRow W1.heap.size 9 1 o (b.goods.length + k + 1) ((lnsE b k).map strL) ∧ Ext W1 wr ∧ W1.heap.size ≤ wr.heap.size) (fun _ j _ => b.entries.length - (intOf j).toNat)
   case atStart => exact ⟨0, Nat.zero_le _, rfl, HO2.out, hx, hsz⟩
   case round =>
    clear hx hsz
    obtain ⟨k, hk2, rfl, hown, hx, hsz⟩ := hrel
    have HSZ : Hid (b.goods.length + k + 1 + 1 ≤ maxLen ∧ (b.goods.length + k + 1 + 1) * 16 ≤ 140737488355328) := by unfold Hid maxLen; omega
    have HOW := Lib.hid hown
    clear hown
    obtain ⟨wo, rfl⟩ : ∃ wo : World, wo = wr := ⟨_, rfl⟩
    obtain ⟨b0, b1, b2, b3⟩ := HB.out wo hx
    by_cases hle : k < b.entries.length
    ·obtain ⟨bk, o, x, rfl, hxk, q0, q1, q2⟩ := HE.out k hle
     have d0 := (hx1.trans hx).cell q0
     have d1 := (hx1.trans hx).cell q1
     have d2 := (hx1.trans hx).cell q2
     have i1 : (0 : Int) ≤ (k : Int) := by omega
     have i2 : (k : Int) < (b.entries.length : Int) := by omega
     have x2 : decide ((k : Int) < (b.entries.length : Int)) = true := by simpa using hle
     have HUP := Lib.hid (lnsE_succ hxk.out)
     have HQ : Hid (Value.string (({ data := #[101, 110, 116, 114, 121] } : ByteArray) ++ ({ data := (numsT (Ln.entry x).nums).toArray } : ByteArray)) = strL (.entry x)) := str_two wEntry _
     have HH1 := Lib.hid (fun W => HWD.out (.slice (some ⟨W.heap.size, 0, none⟩) 3 3) (.entry x) (by unfold lnsB; simp; exact List.mem_of_getElem? hxk.out) (W.alloc (.cells #[.int .i64 x.1, .int .i64 x.2.1, .int .i64 x.2.2] 3)) (ints_new W [x.1, x.2.1, x.2.2] 3 rfl (by omega)))
     have HX := Lib.hid hx
     clear q0 q1 q2 hx
     go_upto_region 10 with fail
     obtain ⟨wa, hwa⟩ : ∃ wa : World, wa = wo.alloc (.cells #[.int .i64 x.1, .int .i64 x.2.1, .int .i64 x.2.2] 64) := ⟨_, rfl⟩
     have hxa : Ext wo wa := by rw [hwa]; exact (Ext.refl _).alloc _
     have c0 : wa.cell? ⟨wo.heap.size, 0, none⟩ = some (.int .i64 x.1) := by rw [hwa]; go_simp
     have c1 : wa.cell? ⟨wo.heap.size, 1, none⟩ = some (.int .i64 x.2.1) := by rw [hwa]; go_simp
     have c2 : wa.cell? ⟨wo.heap.size, 2, none⟩ = some (.int .i64 x.2.2) := by rw [hwa]; go_simp
     rw [← hwa]
     clear hwa d0 d1 d2
     go_wp2_with (first
      | (go_at_call 78; refine (HH1.out _).mono ?_; rintro e w3 ⟨rfl, hx3, hl3⟩; have hx4 : Ext wo w3 := hxa.trans (((Ext.refl _).alloc _).trans hx3))
      | (at_builtin; refine wpList_push_at E_strs rfl _ _ rfl W1.heap.size rfl (owns_ext HOW.out hx4) rfl (by simp) rfl (by simp [Value.oneCell']) ?_ HSZ.out.1 HSZ.out.2 (Nat.le_trans hsz hx4.size); intro g cap w5 hown' hext hgr _))
     go_roundw
     case rel => exact ⟨k + 1, by omega, by go_num, by rw [HUP.out, List.map_append]; have h := hown'; rw [HQ.out] at h; exact h, hext _ (HX.out.trans hx4) (Nat.le_refl _), (hext _ (HX.out.trans hx4) (Nat.le_refl _)).size⟩
     case measure => simp [intOf]; omega
    ·have hke : k = b.entries.length := by omega
     subst hke
     have x2 : decide ((b.entries.length : Int) < (b.entries.length : Int)) = false := by simp
     have HTX : Hid (textT b = downL (linesT b) ++ (endL (checkT (linesT b)) ++ [10])) := rfl
     have HLL : Hid ((lnsE b b.entries.length).map strL = (linesT b).map strV) := by
      unfold Hid lnsE
      rw [List.take_length, ← lnsB_text b, List.map_map]
      rfl
     have hn0 := linesT_length b
     rw [HLL.out] at HOW
     rw [show b.goods.length + b.entries.length + 1 = (linesT b).length by omega] at HOW
     obtain ⟨N, hN⟩ : ∃ N, N = (linesT b).length := ⟨_, rfl⟩
     have hR := RowAt.of_owns HOW.out
     obtain ⟨g, cap, hv⟩ := owns_succ (show wo.ownsRow W1.heap.size 9 1 u3 (b.goods.length + b.entries.length + 1) ((linesT b).map strV) by rw [show b.goods.length + b.entries.length + 1 = (linesT b).length by omega]; exact HOW.out)
     rw [show b.goods.length + b.entries.length + 1 = (linesT b).length by omega] at hv
     have HR := Lib.hid hR
     have hnL : (linesT b).length ≤ 801 := by omega
     clear HLL hN hn0 HOW
     subst hv
     generalize linesT b = L at *
     clear hR
     go_wp2_with fail
     have HX := Lib.hid hx
     clear b0 b1 b2 b3 hx
     obtain ⟨wL, hwL⟩ : ∃ wL : World, wL = wo := ⟨_, rfl⟩
     subst hwL
     go_loopw [7, 8, 9] (fun ov cv iv wr => ∃ i : Nat, i ≤ L.length ∧ iv = .int .i64 (i : Int) ∧ ov = strV (downL (L.take i)) ∧ cv = .int .i64 (linesSum L i) ∧ wr = wL) (fun _ _ iv _ => L.length - (intOf iv).toNat)
     case atStart => exact ⟨0, Nat.zero_le _, rfl, rfl, rfl, rfl⟩
     case round =>
      obtain ⟨i, hi, rfl, rfl, rfl, rfl⟩ := hrel
      obtain ⟨wL, hwL⟩ : ∃ wL : World, wL = wr := ⟨_, rfl⟩
      subst hwL
      by_cases hlt2 : i < L.length
      ·obtain ⟨T, hT⟩ : ∃ T, Hid (L[i]? = some T) := ⟨_, List.getElem?_eq_getElem hlt2⟩
       have hc : wL.cell? ⟨g, i, none⟩ = some (strV T) := row_cell HR.out (by rw [List.getElem?_map, hT.out]; rfl)
       have hlen := HLS.out T (List.mem_of_getElem? hT.out)
       have HDN := Lib.hid (downL_succ hT.out)
       have x3 : decide ((i : Int) < (L.length : Int)) = true := by simpa using hlt2
       have i3 : (0 : Int) ≤ (i : Int) := by omega
       have i4 : (i : Int) < (L.length : Int) := by omega
       have HGD : Hid (linesSum L (i + 1) = linesSum L i + lineSum i T T.length) := by
        unfold Hid
        rw [linesSum, show L.getD i [] = T by rw [List.getD_eq_getElem?_getD, hT.out]; rfl]
       obtain ⟨hb1, hb2⟩ := linesSum_le HLS.out (i := i) (by omega)
       have hb3 : linesSum L i ≤ 81804000 * 801 := by omega
       have hdl : (downL (L.take i)).length ≤ 21 * 801 := by
        have h1 := down_len (ls := L.take i) (n := 20) (fun l hl => HLS.out l (List.mem_of_mem_take hl))
        rw [List.length_take] at h1
        omega
       have hda : ¬ 9223372036854775807 < (downL (L.take i)).length + T.length := by omega
       have hdb : ¬ 9223372036854775807 < (downL (L.take i)).length + T.length + 1 := by omega
       have HDA := Lib.hid hda
       have HDB := Lib.hid hdb
       have hiB : i ≤ 801 := by omega
       clear hdl hda hdb hb2
       go_wp2_with fail
       go_loopw [8, 10] (fun cv kv wr => ∃ q : Nat, q ≤ T.length ∧ kv = .int .i64 (q : Int) ∧ cv = .int .i64 (linesSum L i + lineSum i T q) ∧ wr = wL) (fun _ kv _ => T.length - (intOf kv).toNat)
       case atStart => exact ⟨0, Nat.zero_le _, rfl, by simp [lineSum], rfl⟩
       case round =>
        obtain ⟨q, hq, rfl, rfl, rfl⟩ := hrel
        by_cases hlq : q < T.length
        ·have hby : T.getD q 0 = T[q] := by rw [List.getD_eq_getElem?_getD, List.getElem?_eq_getElem hlq]; rfl
         obtain ⟨hs1, hs2⟩ := lineSum_le (i := i) T (k := q) hiB (by omega)
         obtain ⟨⟨t1, t2⟩, t3, t4⟩ := term_bd (T[q]) (k := q) (i := i) (by omega) hiB
         have HSU := Lib.hid (show lineSum i T (q + 1) = lineSum i T q + ((T[q]).toNat : Int) * ((q : Int) + 1) * ((i : Int) + 1) by rw [lineSum, hby])
         have x5 : decide ((q : Int) < (T.length : Int)) = true := by simpa using hlq
         clear hby
         go_wp2
         go_roundw
         case rel =>
          refine ⟨q + 1, by omega, by go_num, ?_, trivial⟩
          rw [HSU.out]
          exact congrArg (Value.int IntKind.i64) (wrap_term t1 t2 t3 t4 (by omega) (byte_le _) hb1 hb3 hs1 hs2)
         case measure => simp [intOf]; omega
        ·have hqe2 : q = T.length := by omega
         subst hqe2
         have x5 : decide ((T.length : Int) < (T.length : Int)) = false := by simp
         have hda := HDA.out
         have hdb := HDB.out
         go_wp2
         exact ⟨⟨i + 1, by omega, by go_num, by rw [HDN.out]; exact rdown_str _ _, by rw [HGD.out], trivial⟩, by simp [intOf]; omega⟩
      ·have hie : i = L.length := by omega
       subst hie
       have x3 : decide ((L.length : Int) < (L.length : Int)) = false := by simp
       have hdl : (downL L).length ≤ 21 * 801 := by
        have h1 := down_len (ls := L) (n := 20) HLS.out
        omega
       rw [List.take_length]
       obtain ⟨hb1, hb2⟩ := linesSum_le HLS.out (i := L.length) hnL
       obtain ⟨ck, hck, hc0, hc1⟩ : ∃ ck, checkT L = ck ∧ 0 ≤ ck ∧ ck ≤ 150 := ⟨_, rfl, check_bd _⟩
       have hsum : linesSum L L.length % 151 = ck := hck
       have HCK := Lib.hid hck
       have HD := Lib.hid (fun y (h0 : 0 ≤ y) (h1 : y ≤ 1000) w1 => rdecI_any y w1 h0 (by omega))
       have hl1 := Lib.itoa_length_le (ck / 100) (by omega) (by omega)
       have hl2 := Lib.itoa_length_le (ck / 10 % 10) (by omega) (by omega)
       have hl3 := Lib.itoa_length_le (ck % 10) (by omega) (by omega)
       clear hck
       go_wp2_with fail
       refine (HD.out (ck / 100) (by omega) (by omega) _).mono ?_
       rintro e w7 ⟨rfl, hx7⟩
       go_wp2_with fail
       refine (HD.out (ck / 10 % 10) (by omega) (by omega) w7).mono ?_
       rintro e w8 ⟨rfl, hx8⟩
       go_wp2_with fail
       refine (HD.out (ck % 10) (by omega) (by omega) w8).mono ?_
       rintro e w9 ⟨rfl, hx9⟩
       go_wp2
       go_ret
       refine ⟨?_, hx1.trans (HX.out.trans ((hx7.trans hx8).trans hx9))⟩
       rw [HTX.out, HCK.out]
       exact congrArg Ending.returned (end_str _ _ _ _)
end Go.Proofs.YtokananogogjaaaGreatDoor
