/- Packs and sellers as defined: the functions that are handed in. -/
import Derived.Test.YtokananogogjaaaGreatDoorObt
import Derived.Test.YtokananogogjaaaGreatDoorOs
import Derived.Test.YtokananogogjaaaGreatDoorBase
import Derived.Test.YtokananogogjaaaGreatDoorRange
import Derived.Recover
import Derived.RecoverIn
namespace Go.Proofs.YtokananogogjaaaGreatDoor
open Go.RowKit
def packC (k : Int × Int) : List Value := [.int .i64 k.1, .int .i64 k.2]
def badPack (k : Int × Int) : Bool := !inB k.1 1 144 || !inB k.2 0 1000
theorem packs1_any (k : Int × Int) (w : World) :
  Calls Tryz.prog 63 #[.agg #[.int .i64 k.1, .int .i64 k.2]] w fun e w' => e = .returned (.bool (badPack k)) ∧ Ext w w' := by
 unfold badPack
 have H1 := Lib.hid (fun W => in_any k.1 1 144 W)
 cases i1 : inB k.1 1 144 with
 | false =>
  rw [i1] at H1
  clear i1
  go_enter Tryz.func63, Tryz.ntmps63
  go_wp2_with (go_at_call 61; refine (H1.out _).mono ?_; rintro e w' ⟨rfl, rfl⟩)
  go_ret
  exact ⟨rfl, (Ext.refl w).alloc _⟩
 | true =>
  rw [i1] at H1
  have H2 := Lib.hid (fun W => in_any k.2 0 1000 W)
  clear i1
  go_enter Tryz.func63, Tryz.ntmps63
  go_wp2_with (first | (go_at_call 61; with_reducible refine (H1.out _).mono ?_; rintro e w' ⟨rfl, rfl⟩) | (go_at_call 61; with_reducible refine (H2.out _).mono ?_; rintro e w' ⟨rfl, rfl⟩))
  go_ret
  exact ⟨by simp, (Ext.refl w).alloc _⟩
theorem enters_packs1 : ∀ args w, (callFunc 63 args).run Tryz.prog w = .ok (.enter 63 args) w := enters_of Tryz.func63 (by kernel_rfl) rfl
theorem contains_packs1 (v : Value) (ks : List (Int × Int)) (w : World) (hv : RowOf packC w v ks) :
  Calls Tryz.prog 62 #[v, .func (.func 63) #[] #[]] w fun e w' => e = .returned (.bool (ks.any badPack)) ∧ Ext w w' :=
 containsFuncP (f := packC) (fun k => .int .i64 k.1) (fun k => .int .i64 k.2) (fun _ => rfl) v _ _ badPack ks w hv (fun x _ w1 _ => packs1_any x w1) enters_packs1
/-! ### Sellers -/
theorem sell11_any (n most : Int) (kb : Nat) (w : World) (hc : w.cell? ⟨kb, 0, none⟩ = some (.int .i64 most)) :
  Calls Tryz.prog 96 #[.int .i64 n, .pointer (some ⟨kb, 0, none⟩)] w fun e w' => e = .returned (.bool (!inB n 0 most)) ∧ Ext w w' := by
 go_enter Tryz.func96, Tryz.ntmps96
 go_wp2_with (go_at_call 61; refine (in_any _ _ _ _).mono ?_; rintro e w' ⟨rfl, rfl⟩)
 go_ret
 exact ⟨rfl, Ext.refl w⟩
theorem enters_sell11 : ∀ args w, (callFunc 96 args).run Tryz.prog w = .ok (.enter 96 args) w := enters_of Tryz.func96 (by kernel_rfl) rfl
set_option maxRecDepth 100000 in
theorem sell1_any (v wv : Value) (x wants : List Int) (most : Int) (kb : Nat) (w : World) (hv : IntsAt w v x) (hw : IntsAt w wv wants) (hc : w.cell? ⟨kb, 0, none⟩ = some wv) :
  Calls Tryz.prog 94 #[v, .int .i64 most, .pointer (some ⟨kb, 0, none⟩)] w fun e w' => e = .returned (.bool (badL wants.length most x)) ∧ Ext w w' := by
 have HCO := Lib.hid (fun (W1 : World) (k : Nat) (hx : Ext w W1) (hk : W1.cell? ⟨k, 0, none⟩ = some (.int .i64 most)) => containsFuncI (f := fun x : Int => [Value.int .i64 x]) (fun x => .int .i64 x) (fun _ => rfl) v 96 #[.pointer (some ⟨k, 0, none⟩)] (fun n => !inB n 0 most) x W1 (hv.ext hx).row (fun y _ w1 h1 => sell11_any y most k w1 (h1.cell hk)) enters_sell11)
 obtain ⟨a, c, rfl, _⟩ := hv.open
 obtain ⟨wa, wc, rfl, _⟩ := hw.open
 have hx1 : Ext w (w.alloc (.cells #[.int .i64 most] 3)) := (Ext.refl w).alloc _
 clear hv hw
 by_cases h1 : x.length = wants.length
 ·have HR : Hid (badL wants.length most x = x.any (fun v => !inB v 0 most)) := by unfold Hid badL; simp [h1]
  have t1 : ((x.length : Int) != (wants.length : Int)) = false := by rw [h1]; simp
  have t2 : (x.length != wants.length) = false := by rw [h1]; simp
  have HC := Lib.hid (HCO.out _ w.heap.size hx1 (by go_simp))
  clear h1 HCO
  have d0 := hx1.cell hc
  go_enter Tryz.func94, Tryz.ntmps94
  go_wp2_with (go_at_call 95; refine HC.out.mono ?_; rintro e w2 ⟨rfl, hx2⟩)
  go_ret
  exact ⟨by rw [HR.out] <;> rfl, hx1.trans hx2⟩
 ·have HR : Hid (badL wants.length most x = true) := by unfold Hid badL; simp; omega
  have t1 : ((x.length : Int) != (wants.length : Int)) = true := by simp; omega
  have t2 : (x.length != wants.length) = true := by simpa using h1
  have d0 := hx1.cell hc
  clear HCO
  go_enter Tryz.func94, Tryz.ntmps94
  go_wp2
  go_ret
  exact ⟨by rw [HR.out] <;> rfl, hx1⟩
theorem enters_sell1 : ∀ args w, (callFunc 94 args).run Tryz.prog w = .ok (.enter 94 args) w := enters_of Tryz.func94 (by kernel_rfl) rfl
end Go.Proofs.YtokananogogjaaaGreatDoor

/- areSellers. -/
namespace Go.Proofs.YtokananogogjaaaGreatDoor
open Go.RowKit
/-- A seller as it lies in memory. -/
structure SlR where
 st : Value
 pr : Value
 s : Seller
def slrC (r : SlR) : List Value := [.int .i64 r.s.parcel, r.st, r.pr]
def SellersAt (w : World) (v : Value) (ls : List Seller) : Prop := ∃ rows : List SlR, rows.map SlR.s = ls ∧ RowOf slrC w v rows ∧ ∀ r, r ∈ rows → IntsAt w r.st r.s.stock ∧ IntsAt w r.pr r.s.price
theorem SellersAt.ext {w w' : World} {v : Value} {ls : List Seller} (h : SellersAt w v ls) (k : Ext w w') : SellersAt w' v ls := by
 obtain ⟨rows, h1, h2, h3⟩ := h
 exact ⟨rows, h1, h2.ext k, fun r hr => ⟨(h3 r hr).1.ext k, (h3 r hr).2.ext k⟩⟩
set_option maxRecDepth 100000 in
set_option maxHeartbeats 1000000 in
theorem sell2_any (r : SlR) (wv : Value) (wants : List Int) (wb pb : Nat) (w : World) (h1 : IntsAt w r.st r.s.stock) (h2 : IntsAt w r.pr r.s.price) (hw : IntsAt w wv wants) (hc : w.cell? ⟨wb, 0, none⟩ = some wv) (hp : w.cell? ⟨pb, 0, none⟩ = some (.func (.func 94) #[] #[.pointer (some ⟨wb, 0, none⟩)])) :
  Calls Tryz.prog 98 #[.agg #[.int .i64 r.s.parcel, r.st, r.pr], .pointer (some ⟨pb, 0, none⟩)] w fun e w' => e = .returned (.bool (badSeller wants.length r.s)) ∧ Ext w w' := by
 have ea := enters_sell1
 have HI := Lib.hid (fun W => in_any r.s.parcel 0 1000 W)
 have HS := Lib.hid (fun W (h : Ext w W) => sell1_any r.st wv r.s.stock wants 100 wb W (h1.ext h) (hw.ext h) (h.cell hc))
 have HP := Lib.hid (fun W (h : Ext w W) => sell1_any r.pr wv r.s.price wants 1000 wb W (h2.ext h) (hw.ext h) (h.cell hc))
 have HR : ∀ q, badSeller wants.length r.s = q → Hid (badSeller wants.length r.s = q) := fun q h => h
 have HC := Lib.hid (fun W (h : Ext w W) => h.cell hp)
 obtain ⟨sa, sc, hs, _⟩ := h1.open
 obtain ⟨pa, pc, hpv, _⟩ := h2.open
 rw [hs] at HS
 rw [hpv] at HP
 rw [hs, hpv]
 obtain ⟨WB, hWB⟩ : ∃ WB, WB = w.alloc (.cells #[.int .i64 r.s.parcel, .slice sa r.s.stock.length sc, .slice pa r.s.price.length pc] 139) := ⟨_, rfl⟩
 have hx0 : Ext w WB := by rw [hWB]; exact (Ext.refl w).alloc _
 have HX0 := Lib.hid hx0
 have c0 : WB.cell? ⟨w.heap.size, 0, none⟩ = some (.int .i64 r.s.parcel) := by rw [hWB]; go_simp
 have c1 : WB.cell? ⟨w.heap.size, 1, none⟩ = some (.slice sa r.s.stock.length sc) := by rw [hWB]; go_simp
 have c2 : WB.cell? ⟨w.heap.size, 2, none⟩ = some (.slice pa r.s.price.length pc) := by rw [hWB]; go_simp
 have HF := Lib.hid (fun W (h : Ext WB W) => (⟨h.cell c0, h.cell c1, h.cell c2, HC.out W (hx0.trans h)⟩ : _ ∧ _ ∧ _ ∧ _))
 have hq := Ext.refl WB
 obtain ⟨d0, d1, d2, d3⟩ := HF.out _ hq
 clear h1 h2 hw hc hp hs hpv c0 c1 c2 hx0
 cases i1 : inB r.s.parcel 0 1000 with
 | false =>
  have HB := Lib.hid (HR true (by unfold badSeller; rw [i1]; rfl))
  rw [i1] at HI
  clear i1
  go_enter Tryz.func98, Tryz.ntmps98
  go_upto_region 1 with fail
  rw [← hWB]
  clear hWB
  go_wp2_with (go_at_call 61; refine (HI.out _).mono ?_; rintro e w1 ⟨rfl, rfl⟩)
  go_ret
  exact ⟨by rw [HB.out] <;> rfl, HX0.out.trans hq⟩
 | true =>
  rw [i1] at HI
  cases i2 : badL wants.length 100 r.s.stock with
  | true =>
   have HB := Lib.hid (HR true (by unfold badSeller; rw [i1, i2]; rfl))
   rw [i2] at HS
   clear i1 i2
   go_enter Tryz.func98, Tryz.ntmps98
   go_upto_region 1 with fail
   rw [← hWB]
   clear hWB
   go_wp2_with (first | (go_at_call 61; refine (HI.out _).mono ?_; rintro e w1 ⟨rfl, rfl⟩) | (refine Calls.mono (HS.out _ HX0.out) ?_; rintro e w1 ⟨rfl, hx1⟩; replace hq := hq.trans hx1))
   go_ret
   exact ⟨by rw [HB.out] <;> rfl, HX0.out.trans hq⟩
  | false =>
   have HB := Lib.hid (HR (badL wants.length 1000 r.s.price) (by unfold badSeller; rw [i1, i2]; rfl))
   rw [i2] at HS
   clear i1 i2
   go_enter Tryz.func98, Tryz.ntmps98
   go_upto_region 1 with fail
   rw [← hWB]
   clear hWB
   go_wp2_with (first | (go_at_call 61; refine (HI.out _).mono ?_; rintro e w1 ⟨rfl, rfl⟩) | (with_reducible refine Calls.mono (HS.out _ HX0.out) ?_; rintro e w1 ⟨rfl, hx1⟩; replace hq := hq.trans hx1; clear d0 d1 d2 d3; obtain ⟨d0, d1, d2, d3⟩ := HF.out _ hq) | (with_reducible refine Calls.mono (HP.out _ (HX0.out.trans hq)) ?_; rintro e w2 ⟨rfl, hx2⟩; replace hq := hq.trans hx2))
   go_ret
   exact ⟨by rw [HB.out] <;> rfl, HX0.out.trans hq⟩
theorem enters_sell2 : ∀ args w, (callFunc 98 args).run Tryz.prog w = .ok (.enter 98 args) w := enters_of Tryz.func98 (by kernel_rfl) rfl
theorem contains_sell2 (v wv : Value) (ls : List Seller) (wants : List Int) (wb pb : Nat) (w : World) (hs : SellersAt w v ls) (hw : IntsAt w wv wants) (hc : w.cell? ⟨wb, 0, none⟩ = some wv) (hp : w.cell? ⟨pb, 0, none⟩ = some (.func (.func 94) #[] #[.pointer (some ⟨wb, 0, none⟩)])) :
  Calls Tryz.prog 97 #[v, .func (.func 98) #[] #[.pointer (some ⟨pb, 0, none⟩)]] w fun e w' => e = .returned (.bool (ls.any (badSeller wants.length))) ∧ Ext w w' := by
 obtain ⟨rows, rfl, hr, hi⟩ := hs
 have h := containsFuncS (f := slrC) (fun r => .int .i64 r.s.parcel) (fun r => r.st) (fun r => r.pr) (fun _ => rfl) v 98 #[.pointer (some ⟨pb, 0, none⟩)] (fun r => badSeller wants.length r.s) rows w hr (fun x hx w1 h1 => sell2_any x wv wants wb pb w1 ((hi x hx).1.ext h1) ((hi x hx).2.ext h1) (hw.ext h1) (h1.cell hc) (h1.cell hp)) enters_sell2
 rw [List.any_map]
 exact h
def areSellersB (ls : List Seller) (wants : List Int) : Bool := isWantedB wants && isSellersB wants.length ls
set_option maxRecDepth 100000 in
set_option maxHeartbeats 1000000 in
theorem areSellers_any (v wv : Value) (ls : List Seller) (wants : List Int) (w : World) (hs : SellersAt w v ls) (hw : IntsAt w wv wants) :
  Calls Tryz.prog 66 #[v, wv] w fun e w' => e = .returned (.bool (areSellersB ls wants)) ∧ Ext w w' := by
 have ea := enters_sell1
 have hww := hw
 have hss := hs
 obtain ⟨rows, hrs, hr, _⟩ := hs
 have hrl := congrArg List.length hrs
 rw [List.length_map] at hrl
 obtain ⟨a, c, rfl, _⟩ := RowAt.open hr
 obtain ⟨wa, wc, rfl, _⟩ := hw.open
 have hR : areSellersB ls wants = (inB rows.length 1 4 && (inB wants.length 1 5 && (!(badL wants.length 400 wants) && !(ls.any (badSeller wants.length))))) := by
  unfold areSellersB isWantedB isSellersB badL
  rw [hrl]
  simp only [ne_eq, not_true_eq_false, decide_false, Bool.false_or]
  cases inB (ls.length : Int) 1 4 <;> cases inB (wants.length : Int) 1 5 <;> simp
 have HR := Lib.hid hR
 have HI1 := Lib.hid (fun W => in_any (rows.length : Int) 1 4 W)
 have HI2 := Lib.hid (fun W => in_any (wants.length : Int) 1 5 W)
 obtain ⟨WB, hWB⟩ : ∃ WB, WB = (w.alloc (.cells #[.slice wa wants.length wc] 42)).alloc (.cells #[(.func (.func 94) #[] #[.pointer (some ⟨w.heap.size, 0, none⟩)])] 54) := ⟨_, rfl⟩
 have hx0 : Ext w WB := by rw [hWB]; exact ((Ext.refl w).alloc _).alloc _
 have HX0 := Lib.hid hx0
 have c0 : WB.cell? ⟨w.heap.size, 0, none⟩ = some (.slice wa wants.length wc) := by rw [hWB]; go_simp
 have c1 : WB.cell? ⟨w.heap.size + 1, 0, none⟩ = some (.func (.func 94) #[] #[.pointer (some ⟨w.heap.size, 0, none⟩)]) := by rw [hWB]; go_simp
 have HS := Lib.hid (fun W (h : Ext WB W) => sell1_any (.slice wa wants.length wc) (.slice wa wants.length wc) wants wants 400 w.heap.size W (hww.ext (hx0.trans h)) (hww.ext (hx0.trans h)) (h.cell c0))
 have HC := Lib.hid (fun W (h : Ext WB W) => contains_sell2 (.slice a rows.length c) (.slice wa wants.length wc) ls wants w.heap.size (w.heap.size + 1) W (hss.ext (hx0.trans h)) (hww.ext (hx0.trans h)) (h.cell c0) (h.cell c1))
 have HF := Lib.hid (fun W (h : Ext WB W) => (⟨h.cell c0, h.cell c1⟩ : _ ∧ _))
 have hq := Ext.refl WB
 clear hrs hr hw hww hss hR hx0 hrl
 cases i1 : inB (rows.length : Int) 1 4 with
 | false =>
  rw [i1] at HI1
  have HB : Hid (areSellersB ls wants = false) := by unfold Hid; rw [HR.out, i1]; rfl
  clear i1 HR
  go_enter Tryz.func66, Tryz.ntmps66
  go_upto_region 2 with fail
  rw [← hWB]
  clear hWB
  go_wp2_with (go_at_call 61; refine (HI1.out _).mono ?_; rintro e w1 ⟨rfl, rfl⟩)
  go_ret
  exact ⟨by rw [HB.out] <;> rfl, HX0.out⟩
 | true =>
  rw [i1] at HI1
  cases i2 : inB (wants.length : Int) 1 5 with
  | false =>
   rw [i2] at HI2
   have HB : Hid (areSellersB ls wants = false) := by unfold Hid; rw [HR.out, i1, i2]; rfl
   clear i1 i2 HR
   go_enter Tryz.func66, Tryz.ntmps66
   go_upto_region 2 with fail
   rw [← hWB]
   clear hWB
   go_wp2_with (first | (go_at_call 61; with_reducible refine (HI1.out _).mono ?_; rintro e w1 ⟨rfl, rfl⟩) | (go_at_call 61; with_reducible refine (HI2.out _).mono ?_; rintro e w1 ⟨rfl, rfl⟩))
   go_ret
   exact ⟨by rw [HB.out] <;> rfl, HX0.out⟩
  | true =>
   rw [i2] at HI2
   cases i3 : badL wants.length 400 wants with
   | true =>
    rw [i3] at HS
    have HB : Hid (areSellersB ls wants = false) := by unfold Hid; rw [HR.out, i1, i2, i3]; rfl
    clear i1 i2 i3 HR
    go_enter Tryz.func66, Tryz.ntmps66
    go_upto_region 2 with fail
    rw [← hWB]
    clear hWB
    go_wp2_with (first | (go_at_call 61; with_reducible refine (HI1.out _).mono ?_; rintro e w1 ⟨rfl, rfl⟩) | (go_at_call 61; with_reducible refine (HI2.out _).mono ?_; rintro e w1 ⟨rfl, rfl⟩) | (with_reducible refine Calls.mono (HS.out _ (Ext.refl _)) ?_; rintro e w1 ⟨rfl, hx1⟩; replace hq := hq.trans hx1))
    go_ret
    exact ⟨by rw [HB.out] <;> rfl, HX0.out.trans hq⟩
   | false =>
    rw [i3] at HS
    have HB : Hid (areSellersB ls wants = !(ls.any (badSeller wants.length))) := by unfold Hid; rw [HR.out, i1, i2, i3]; rfl
    clear i1 i2 i3 HR
    go_enter Tryz.func66, Tryz.ntmps66
    go_upto_region 2 with fail
    rw [← hWB]
    clear hWB
    go_wp2_with (first | (go_at_call 61; with_reducible refine (HI1.out _).mono ?_; rintro e w1 ⟨rfl, rfl⟩) | (go_at_call 61; with_reducible refine (HI2.out _).mono ?_; rintro e w1 ⟨rfl, rfl⟩) | (with_reducible refine Calls.mono (HS.out _ (Ext.refl _)) ?_; rintro e w1 ⟨rfl, hx1⟩; replace hq := hq.trans hx1; clear c0 c1; obtain ⟨c0, c1⟩ := HF.out _ hq) | (go_at_call 97; refine (HC.out _ hq).mono ?_; rintro e w2 ⟨rfl, hx2⟩; replace hq := hq.trans hx2))
    go_ret
    exact ⟨by rw [HB.out] <;> rfl, HX0.out.trans hq⟩
end Go.Proofs.YtokananogogjaaaGreatDoor

/- try: what is given up with, as an error. -/
namespace Go.Proofs.YtokananogogjaaaGreatDoor
open Go.RowKit
abbrev badV (n : Int) : Value := .iface 164 (.agg #[.int .i64 n])
abbrev noneV (why : ByteArray) : Value := .iface 166 (.agg #[.string why])
set_option maxRecDepth 100000 in
set_option maxHeartbeats 4000000 in
theorem tryD_idle (p : Value) (w : World) :
 CallsD Tryz.prog 102 #[p] .returning w fun e u' w' => e = .returned (.tuple #[]) ∧ u' = .returning ∧ w' = w := by
 refine callsD_of_wpS Tryz.func102 rfl fun c₀ cs hu => ?_
 apply wpS_seq
 apply wpS_region
 simp [wpOpsS, go_sem, recoverD, hu, Tryz.ntmps102, Exit.thenS]
 refine wpS_of_wp ?_
 go_wp2
 cases c₀
 simp_all [bodyPostS, results, Tryz.results102]
set_option maxRecDepth 100000 in
set_option maxHeartbeats 8000000 in
theorem tryD_bad (eb : Nat) (n : Int) (x : Value) (w : World) (hc : w.cell? ⟨eb, 0, none⟩ = some x) (hz : w.frozen? ⟨eb, 0, none⟩ = false) :
 CallsD Tryz.prog 102 #[.pointer (some ⟨eb, 0, none⟩)] (.panicking [{ v := badV n, recovered := false }]) w fun e u' w' =>
  e = .returned (.tuple #[]) ∧ u' = .panicking [{ v := badV n, recovered := true }] ∧ w' = (w.alloc (.cells #[.int .i64 n] 164)).setCell ⟨eb, 0, none⟩ (.int .i64 2) := by
 have hta : ∀ wq, (Instr.typeAssert (.iface 164 (.agg #[.int .i64 n])) 20 164 true).run Tryz.prog wq = .ok (.tuple #[.agg #[.int .i64 n], .bool true]) wq := fun wq => by kernel_rfl
 have hxa : Ext w (w.alloc (.cells #[.int .i64 n] 164)) := (Ext.refl w).alloc _
 have hcA := hxa.cell hc
 have hzA := (hxa.frozen (lt_of_cell hc)).trans hz
 unfold badV
 clear hxa hc hz
 refine callsD_of_wpS Tryz.func102 rfl fun c₀ cs hu => ?_
 apply wpS_seq
 apply wpS_region
 simp [wpOpsS, go_sem, recoverD, hu, Tryz.ntmps102, Exit.thenS]
 refine wpS_of_wp ?_
 simp only [Array.replicate_succ, Array.replicate_zero, List.push_toArray, List.nil_append, List.cons_append]
 go_wp2
 cases c₀
 simp_all [bodyPostS, results, Tryz.results102]
set_option maxRecDepth 100000 in
set_option maxHeartbeats 8000000 in
theorem tryD_none (eb : Nat) (why : ByteArray) (x : Value) (w : World) (hc : w.cell? ⟨eb, 0, none⟩ = some x) (hz : w.frozen? ⟨eb, 0, none⟩ = false) :
 CallsD Tryz.prog 102 #[.pointer (some ⟨eb, 0, none⟩)] (.panicking [{ v := noneV why, recovered := false }]) w fun e u' w' =>
  e = .returned (.tuple #[]) ∧ u' = .panicking [{ v := noneV why, recovered := true }] ∧ w' = (w.alloc (.cells #[.string why] 166)).setCell ⟨eb, 0, none⟩ (.int .i64 4) := by
 have hta : ∀ wq, (Instr.typeAssert (.iface 166 (.agg #[.string why])) 20 164 true).run Tryz.prog wq = .ok (.tuple #[.agg #[.int .i64 0], .bool false]) wq := fun wq => by kernel_rfl
 have hta2 : ∀ wq, (Instr.typeAssert (.iface 166 (.agg #[.string why])) 20 166 true).run Tryz.prog wq = .ok (.tuple #[.agg #[.string why], .bool true]) wq := fun wq => by kernel_rfl
 have hxa : Ext w (w.alloc (.cells #[.string why] 166)) := (Ext.refl w).alloc _
 have hcA := hxa.cell hc
 have hzA := (hxa.frozen (lt_of_cell hc)).trans hz
 unfold noneV
 clear hxa hc hz
 refine callsD_of_wpS Tryz.func102 rfl fun c₀ cs hu => ?_
 apply wpS_seq
 apply wpS_region
 simp [wpOpsS, go_sem, recoverD, hu, Tryz.ntmps102, Exit.thenS]
 refine wpS_of_wp ?_
 simp only [Array.replicate_succ, Array.replicate_zero, List.push_toArray, List.nil_append, List.cons_append]
 go_wp2
 cases c₀
 simp_all [bodyPostS, results, Tryz.results102]
theorem try_results {tmps : Array Value} {W : World} {eb : Nat} {v : Value} (hq : tmps.getD 2 undef = .pointer (some ⟨eb, 0, none⟩)) (hc : W.cell? ⟨eb, 0, none⟩ = some v) :
 (results Tryz.f74 tmps).run Tryz.prog W = .ok v W := by
 have hq' : tmps[2]?.getD undef = .pointer (some ⟨eb, 0, none⟩) := by simpa using hq
 simp [results, Tryz.results74, hq', asAddr, go_sem, hc]
abbrev tryW (w : World) : World := w.alloc (.cells #[.int .i64 0] 39)
set_option maxRecDepth 100000 in
set_option maxHeartbeats 8000000 in
/-- It is done to its end. -/
theorem try_ok (g : Nat) (lb : Array Value) (w : World) (R : World → Prop) (eg : ∀ args w, (callFunc g args).run Tryz.prog w = .ok (.enter g args) w)
 (h : Calls Tryz.prog g lb (tryW w) fun e w' => e = .returned (.tuple #[]) ∧ w'.cell? ⟨w.heap.size, 0, none⟩ = some (.int .i64 0) ∧ w'.frozen? ⟨w.heap.size, 0, none⟩ = false ∧ R w') :
 Calls Tryz.prog 74 #[.func (.func g) #[] lb] w fun e w'' => e = .returned (.int .i64 0) ∧ ∃ w', R w' ∧ w'' = w'.setCell ⟨w.heap.size, 0, none⟩ (.int .i64 0) := by
 have hmf : ∀ (fn : Fn) (first cap : Array Value) (w : World), (Instr.makeFunc fn first cap).run Tryz.prog w = .ok (.func fn first cap) w := fun _ _ _ _ => rfl
 have H := Lib.hid h
 clear h
 go_enter_defers Tryz.func74, Tryz.ntmps74
 go_wp2_with (refine Calls.mono H.out ?_; rintro e w3 ⟨rfl, hc3, hf3, hR⟩)
 have hcE : (w3.setCell ⟨w.heap.size, 0, none⟩ (.int .i64 0)).cell? ⟨w.heap.size, 0, none⟩ = some (.int .i64 0) := World.cell?_setCell_same _ _ _ hc3
 refine leaves_cons (f := 102) (args := #[.pointer (some ⟨w.heap.size, 0, none⟩)]) (by simp) (by simp [go_sem]) ?_
 refine (tryD_idle _ _).mono ?_
 rintro e u' w'' ⟨rfl, rfl, rfl⟩
 simp only [Leaves, settle]
 exact ⟨_, try_results rfl hcE, rfl, w3, hR, rfl⟩
set_option maxRecDepth 100000 in
set_option maxHeartbeats 8000000 in
/-- A list is none. -/
theorem try_bad (g : Nat) (lb : Array Value) (w : World) (R : World → Prop) (eg : ∀ args w, (callFunc g args).run Tryz.prog w = .ok (.enter g args) w)
 (h : Calls Tryz.prog g lb (tryW w) fun e w' => (∃ n : Int, e = .panicked [{ v := badV n, recovered := false }]) ∧ w'.cell? ⟨w.heap.size, 0, none⟩ = some (.int .i64 0) ∧ w'.frozen? ⟨w.heap.size, 0, none⟩ = false ∧ R w') :
 Calls Tryz.prog 74 #[.func (.func g) #[] lb] w fun e w'' => e = .returned (.int .i64 2) ∧ ∃ w' n, R w' ∧ w'' = (w'.alloc (.cells #[.int .i64 n] 164)).setCell ⟨w.heap.size, 0, none⟩ (.int .i64 2) := by
 have hmf : ∀ (fn : Fn) (first cap : Array Value) (w : World), (Instr.makeFunc fn first cap).run Tryz.prog w = .ok (.func fn first cap) w := fun _ _ _ _ => rfl
 have H := Lib.hid h
 clear h
 go_enter_defers Tryz.func74, Tryz.ntmps74
 go_wp2_with (refine Calls.mono H.out ?_; rintro e w3 ⟨⟨n, rfl⟩, hc3, hf3, hR⟩)
 refine leaves_cons (f := 102) (args := #[.pointer (some ⟨w.heap.size, 0, none⟩)]) (by simp) (by simp [go_sem]) ?_
 refine (tryD_bad w.heap.size n _ w3 hc3 hf3).mono ?_
 rintro e u' w'' ⟨rfl, rfl, rfl⟩
 have hcE : ((w3.alloc (.cells #[.int .i64 n] 164)).setCell ⟨w.heap.size, 0, none⟩ (.int .i64 2)).cell? ⟨w.heap.size, 0, none⟩ = some (.int .i64 2) := World.cell?_setCell_same _ _ _ (((Ext.refl w3).alloc _).cell hc3)
 simp only [Leaves, settle, List.dropWhile]
 exact ⟨_, try_results rfl hcE, rfl, w3, n, hR, rfl⟩
set_option maxRecDepth 100000 in
set_option maxHeartbeats 8000000 in
/-- A text is no book. -/
theorem try_none (g : Nat) (lb : Array Value) (w : World) (R : World → Prop) (eg : ∀ args w, (callFunc g args).run Tryz.prog w = .ok (.enter g args) w)
 (h : Calls Tryz.prog g lb (tryW w) fun e w' => (∃ why : ByteArray, e = .panicked [{ v := noneV why, recovered := false }]) ∧ w'.cell? ⟨w.heap.size, 0, none⟩ = some (.int .i64 0) ∧ w'.frozen? ⟨w.heap.size, 0, none⟩ = false ∧ R w') :
 Calls Tryz.prog 74 #[.func (.func g) #[] lb] w fun e w'' => e = .returned (.int .i64 4) ∧ ∃ w' why, R w' ∧ w'' = (w'.alloc (.cells #[.string why] 166)).setCell ⟨w.heap.size, 0, none⟩ (.int .i64 4) := by
 have hmf : ∀ (fn : Fn) (first cap : Array Value) (w : World), (Instr.makeFunc fn first cap).run Tryz.prog w = .ok (.func fn first cap) w := fun _ _ _ _ => rfl
 have H := Lib.hid h
 clear h
 go_enter_defers Tryz.func74, Tryz.ntmps74
 go_wp2_with (refine Calls.mono H.out ?_; rintro e w3 ⟨⟨why, rfl⟩, hc3, hf3, hR⟩)
 refine leaves_cons (f := 102) (args := #[.pointer (some ⟨w.heap.size, 0, none⟩)]) (by simp) (by simp [go_sem]) ?_
 refine (tryD_none w.heap.size why _ w3 hc3 hf3).mono ?_
 rintro e u' w'' ⟨rfl, rfl, rfl⟩
 have hcE : ((w3.alloc (.cells #[.string why] 166)).setCell ⟨w.heap.size, 0, none⟩ (.int .i64 4)).cell? ⟨w.heap.size, 0, none⟩ = some (.int .i64 4) := World.cell?_setCell_same _ _ _ (((Ext.refl w3).alloc _).cell hc3)
 simp only [Leaves, settle, List.dropWhile]
 exact ⟨_, try_results rfl hcE, rfl, w3, why, hR, rfl⟩
end Go.Proofs.YtokananogogjaaaGreatDoor
