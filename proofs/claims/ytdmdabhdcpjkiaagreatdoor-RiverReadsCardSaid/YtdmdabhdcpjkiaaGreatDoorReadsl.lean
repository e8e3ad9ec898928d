/- The law RiverReads. -/
import Derived.Test.YtdmdabhdcpjkiaaGreatDoorLawb
import Derived.Test.YtdmdabhdcpjkiaaGreatDoorReadc
import Derived.Test.YtdmdabhdcpjkiaaGreatDoorRread
import Derived.Test.YtdmdabhdcpjkiaaGreatDoorSameb
namespace Go.Proofs.YtdmdabhdcpjkiaaGreatDoor
open Go.RowKit
set_option maxRecDepth 100000 in
set_option maxHeartbeats 8000000 in
theorem reads_long (s : List UInt8) (w : World) (ht : TabOk w) (hl : 300 < s.length) (hl2 : s.length ≤ 9223372036854775807) : Calls Tryz.prog 6 #[strV s] w (TrueP w) := by
 have HK := Lib.hid (fun w1 (h : Ext w w1) => lknown_any w1 (ht.ext h))
 have hsz := size_str s
 have t1 : decide ((300 : Int) < (s.length : Int)) = true := by simp; omega
 clear ht hl
 go_enter Tryz.func6, Tryz.ntmps6
 go_wp2_with (go_at_call 10; refine (HK.out _ (Ext.refl _)).mono ?_; rintro e w2 ⟨rfl, hx2⟩)
 go_ret
 exact ⟨rfl, hx2⟩
set_option maxRecDepth 100000 in
set_option maxHeartbeats 16000000 in
theorem reads_a1 (s : List UInt8) (w : World) (hl : s.length ≤ 300)
  (HK : ∀ w1, Ext w w1 → Calls Tryz.prog 10 #[] w1 (TrueP w1)) (hrd : ∀ w1, Ext w w1 → Calls Tryz.prog 26 #[strV s] w1 fun e w' => e = .returned (.tuple #[zeroBk, .int .i64 3]) ∧ Ext w1 w')
  (hrr : ∀ w1, Ext w w1 → Calls Tryz.prog 29 #[strV s] w1 fun e w' => ∃ (bo : Bool) (q : Book) (qa : Option Addr) (qc : Nat), e = .returned (.tuple #[.agg #[.int .i64 q.years, .slice qa q.rivers.length qc], .bool bo]) ∧ BookAt w' (.agg #[.int .i64 q.years, .slice qa q.rivers.length qc]) q ∧ Ext w1 w') (hl2 : 200 < s.length) : Calls Tryz.prog 6 #[strV s] w (TrueP w) := by
 have HK := Lib.hid HK
 have HRD := Lib.hid hrd
 have HRR := Lib.hid hrr
 have HSB := Lib.hid sameB_yes
 have hsz := size_str s
 have t1 : decide ((300 : Int) < (s.length : Int)) = false := by simp; omega
 have t2 : decide ((200 : Int) < (s.length : Int)) = true := by simp; omega
 clear hrd hrr
 go_enter Tryz.func6, Tryz.ntmps6
 go_wp2_with (first
  | (go_at_call 26; refine (HRD.out _ (Ext.refl _)).mono ?_; rintro e w1 ⟨rfl, hx1⟩; have hza := (Ext.refl w1).alloc (.cells #[.int .i64 0, .slice none 0 0] 24); have HV1 := Lib.hid (True.intro); have HZ1 := Lib.hid (hx1.trans hza); have y0 : (w1.alloc (.cells #[.int .i64 0, .slice none 0 0] 24)).cell? ⟨w1.heap.size, 0, none⟩ = some (.int .i64 0) := (by go_simp); have y1 : (w1.alloc (.cells #[.int .i64 0, .slice none 0 0] 24)).cell? ⟨w1.heap.size, 1, none⟩ = some (.slice none 0 0) := (by go_simp); have HY := Lib.hid (And.intro y0 y1); clear hx1 hza y0 y1)
  | (go_at_call 29; refine (HRR.out _ HZ1.out).mono ?_; rintro e w2 ⟨bo, q, qa, qc, rfl, hqb, hx2⟩; have hzb := (Ext.refl w2).alloc (.cells #[.int .i64 q.years, .slice qa q.rivers.length qc] 24); have HV2 := Lib.hid (hqb.ext hzb); have HX12 := Lib.hid (hx2.trans hzb); have y0 := HX12.out.cell HY.out.1; have y1 := HX12.out.cell HY.out.2; have u0 : (w2.alloc (.cells #[.int .i64 q.years, .slice qa q.rivers.length qc] 24)).cell? ⟨w2.heap.size, 0, none⟩ = some (.int .i64 q.years) := (by go_simp); have u1 : (w2.alloc (.cells #[.int .i64 q.years, .slice qa q.rivers.length qc] 24)).cell? ⟨w2.heap.size, 1, none⟩ = some (.slice qa q.rivers.length qc) := (by go_simp); have hr := Ext.refl (w2.alloc (.cells #[.int .i64 q.years, .slice qa q.rivers.length qc] 24)); have HU := Lib.hid (And.intro u0 u1); clear hx2 hzb hqb)
  | (go_at_call 28; refine (HSB.out _ _ zeroB _ (zero_book _) (zero_book _)).mono ?_; rintro e w6 ⟨rfl, hx6⟩; replace hr := hr.trans hx6; clear hx6)
  | (go_at_call 10; refine (HK.out _ ((HZ1.out.trans HX12.out).trans hr)).mono ?_; rintro e w7 ⟨rfl, hx7⟩; replace hr := hr.trans hx7; clear hx7))
 go_ret
 exact ⟨rfl, (HZ1.out.trans HX12.out).trans hr⟩
set_option maxRecDepth 100000 in
set_option maxHeartbeats 16000000 in
theorem reads_a2 (s : List UInt8) (w : World) (hl : s.length ≤ 300)
  (HK : ∀ w1, Ext w w1 → Calls Tryz.prog 10 #[] w1 (TrueP w1)) (hrd : ∀ w1, Ext w w1 → Calls Tryz.prog 26 #[strV s] w1 fun e w' => e = .returned (.tuple #[zeroBk, .int .i64 4]) ∧ Ext w1 w')
  (hrr : ∀ w1, Ext w w1 → Calls Tryz.prog 29 #[strV s] w1 fun e w' => ∃ (q : Book) (qa : Option Addr) (qc : Nat), e = .returned (.tuple #[.agg #[.int .i64 q.years, .slice qa q.rivers.length qc], .bool false]) ∧ BookAt w' (.agg #[.int .i64 q.years, .slice qa q.rivers.length qc]) q ∧ Ext w1 w') (hl2 : s.length ≤ 200) : Calls Tryz.prog 6 #[strV s] w (TrueP w) := by
 have HK := Lib.hid HK
 have HRD := Lib.hid hrd
 have HRR := Lib.hid hrr
 have HSB := Lib.hid sameB_yes
 have hsz := size_str s
 have t1 : decide ((300 : Int) < (s.length : Int)) = false := by simp; omega
 have t2 : decide ((200 : Int) < (s.length : Int)) = false := by simp; omega
 clear hrd hrr
 go_enter Tryz.func6, Tryz.ntmps6
 go_wp2_with (first
  | (go_at_call 26; refine (HRD.out _ (Ext.refl _)).mono ?_; rintro e w1 ⟨rfl, hx1⟩; have hza := (Ext.refl w1).alloc (.cells #[.int .i64 0, .slice none 0 0] 24); have HV1 := Lib.hid (True.intro); have HZ1 := Lib.hid (hx1.trans hza); have y0 : (w1.alloc (.cells #[.int .i64 0, .slice none 0 0] 24)).cell? ⟨w1.heap.size, 0, none⟩ = some (.int .i64 0) := (by go_simp); have y1 : (w1.alloc (.cells #[.int .i64 0, .slice none 0 0] 24)).cell? ⟨w1.heap.size, 1, none⟩ = some (.slice none 0 0) := (by go_simp); have HY := Lib.hid (And.intro y0 y1); clear hx1 hza y0 y1)
  | (go_at_call 29; refine (HRR.out _ HZ1.out).mono ?_; rintro e w2 ⟨q, qa, qc, rfl, hqb, hx2⟩; have hzb := (Ext.refl w2).alloc (.cells #[.int .i64 q.years, .slice qa q.rivers.length qc] 24); have HV2 := Lib.hid (hqb.ext hzb); have HX12 := Lib.hid (hx2.trans hzb); have y0 := HX12.out.cell HY.out.1; have y1 := HX12.out.cell HY.out.2; have u0 : (w2.alloc (.cells #[.int .i64 q.years, .slice qa q.rivers.length qc] 24)).cell? ⟨w2.heap.size, 0, none⟩ = some (.int .i64 q.years) := (by go_simp); have u1 : (w2.alloc (.cells #[.int .i64 q.years, .slice qa q.rivers.length qc] 24)).cell? ⟨w2.heap.size, 1, none⟩ = some (.slice qa q.rivers.length qc) := (by go_simp); have hr := Ext.refl (w2.alloc (.cells #[.int .i64 q.years, .slice qa q.rivers.length qc] 24)); have HU := Lib.hid (And.intro u0 u1); clear hx2 hzb hqb)
  | (go_at_call 28; refine (HSB.out _ _ zeroB _ (zero_book _) (zero_book _)).mono ?_; rintro e w6 ⟨rfl, hx6⟩; replace hr := hr.trans hx6; clear hx6)
  | (go_at_call 10; refine (HK.out _ ((HZ1.out.trans HX12.out).trans hr)).mono ?_; rintro e w7 ⟨rfl, hx7⟩; replace hr := hr.trans hx7; clear hx7))
 go_ret
 exact ⟨rfl, (HZ1.out.trans HX12.out).trans hr⟩
set_option maxRecDepth 100000 in
set_option maxHeartbeats 16000000 in
theorem reads_a3 (s : List UInt8) (q : Book) (w : World) (hl : s.length ≤ 300)
  (HK : ∀ w1, Ext w w1 → Calls Tryz.prog 10 #[] w1 (TrueP w1)) (hrd : ∀ w1, Ext w w1 → Calls Tryz.prog 26 #[strV s] w1 fun e w' => e = .returned (.tuple #[zeroBk, .int .i64 2]) ∧ Ext w1 w')
  (hrr : ∀ w1, Ext w w1 → Calls Tryz.prog 29 #[strV s] w1 fun e w' => ∃ (qa : Option Addr) (qc : Nat), e = .returned (.tuple #[.agg #[.int .i64 q.years, .slice qa q.rivers.length qc], .bool true]) ∧ BookAt w' (.agg #[.int .i64 q.years, .slice qa q.rivers.length qc]) q ∧ Ext w1 w') (hl2 : s.length ≤ 200) (hqf : isBookB q = false) : Calls Tryz.prog 6 #[strV s] w (TrueP w) := by
 have HK := Lib.hid HK
 have HRD := Lib.hid hrd
 have HRR := Lib.hid hrr
 have HSB := Lib.hid sameB_yes
 have hsz := size_str s
 have t1 : decide ((300 : Int) < (s.length : Int)) = false := by simp; omega
 have t2 : decide ((200 : Int) < (s.length : Int)) = false := by simp; omega
 have HBK := Lib.hid (fun (w1 : World) (v : Value) (h : BookAt w1 v q) => rbook_any v q w1 h)
 rw [hqf] at HBK
 clear hqf
 clear hrd hrr
 go_enter Tryz.func6, Tryz.ntmps6
 go_wp2_with (first
  | (go_at_call 26; refine (HRD.out _ (Ext.refl _)).mono ?_; rintro e w1 ⟨rfl, hx1⟩; have hza := (Ext.refl w1).alloc (.cells #[.int .i64 0, .slice none 0 0] 24); have HV1 := Lib.hid (True.intro); have HZ1 := Lib.hid (hx1.trans hza); have y0 : (w1.alloc (.cells #[.int .i64 0, .slice none 0 0] 24)).cell? ⟨w1.heap.size, 0, none⟩ = some (.int .i64 0) := (by go_simp); have y1 : (w1.alloc (.cells #[.int .i64 0, .slice none 0 0] 24)).cell? ⟨w1.heap.size, 1, none⟩ = some (.slice none 0 0) := (by go_simp); have HY := Lib.hid (And.intro y0 y1); clear hx1 hza y0 y1)
  | (go_at_call 29; refine (HRR.out _ HZ1.out).mono ?_; rintro e w2 ⟨qa, qc, rfl, hqb, hx2⟩; have hzb := (Ext.refl w2).alloc (.cells #[.int .i64 q.years, .slice qa q.rivers.length qc] 24); have HV2 := Lib.hid (hqb.ext hzb); have HX12 := Lib.hid (hx2.trans hzb); have y0 := HX12.out.cell HY.out.1; have y1 := HX12.out.cell HY.out.2; have u0 : (w2.alloc (.cells #[.int .i64 q.years, .slice qa q.rivers.length qc] 24)).cell? ⟨w2.heap.size, 0, none⟩ = some (.int .i64 q.years) := (by go_simp); have u1 : (w2.alloc (.cells #[.int .i64 q.years, .slice qa q.rivers.length qc] 24)).cell? ⟨w2.heap.size, 1, none⟩ = some (.slice qa q.rivers.length qc) := (by go_simp); have hr := Ext.refl (w2.alloc (.cells #[.int .i64 q.years, .slice qa q.rivers.length qc] 24)); have HU := Lib.hid (And.intro u0 u1); clear hx2 hzb hqb)
  | (go_at_call 12; refine (HBK.out _ _ (HV2.out.ext hr)).mono ?_; rintro e w5 ⟨rfl, hx5⟩; replace hr := hr.trans hx5; clear y0 y1 u0 u1; have y0 := (HX12.out.trans hr).cell HY.out.1; have y1 := (HX12.out.trans hr).cell HY.out.2; have u0 := hr.cell HU.out.1; have u1 := hr.cell HU.out.2; clear hx5)
  | (go_at_call 28; refine (HSB.out _ _ zeroB _ (zero_book _) (zero_book _)).mono ?_; rintro e w6 ⟨rfl, hx6⟩; replace hr := hr.trans hx6; clear hx6)
  | (go_at_call 10; refine (HK.out _ ((HZ1.out.trans HX12.out).trans hr)).mono ?_; rintro e w7 ⟨rfl, hx7⟩; replace hr := hr.trans hx7; clear hx7))
 go_ret
 exact ⟨rfl, (HZ1.out.trans HX12.out).trans hr⟩
set_option maxRecDepth 100000 in
set_option maxHeartbeats 16000000 in
theorem reads_b (s : List UInt8) (q : Book) (w : World) (hl : s.length ≤ 300)
  (HK : ∀ w1, Ext w w1 → Calls Tryz.prog 10 #[] w1 (TrueP w1)) (hrd : ∀ w1, Ext w w1 → Calls Tryz.prog 26 #[strV s] w1 fun e w' => ∃ (xa : Option Addr) (xc : Nat), e = .returned (.tuple #[.agg #[.int .i64 q.years, .slice xa q.rivers.length xc], .int .i64 0]) ∧ BookAt w' (.agg #[.int .i64 q.years, .slice xa q.rivers.length xc]) q ∧ Ext w1 w')
  (hrr : ∀ w1, Ext w w1 → Calls Tryz.prog 29 #[strV s] w1 fun e w' => ∃ (qa : Option Addr) (qc : Nat), e = .returned (.tuple #[.agg #[.int .i64 q.years, .slice qa q.rivers.length qc], .bool true]) ∧ BookAt w' (.agg #[.int .i64 q.years, .slice qa q.rivers.length qc]) q ∧ Ext w1 w') (hl2 : s.length ≤ 200) (hqf : isBookB q = true) (hpr : ∀ (v : Value) w1, Ext w w1 → BookAt w1 v q → Calls Tryz.prog 25 #[v] w1 fun e w' => e = .returned (.tuple #[strV s, .int .i64 0]) ∧ Ext w1 w') : Calls Tryz.prog 6 #[strV s] w (TrueP w) := by
 have HK := Lib.hid HK
 have HRD := Lib.hid hrd
 have HRR := Lib.hid hrr
 have HSB := Lib.hid sameB_yes
 have hsz := size_str s
 have t1 : decide ((300 : Int) < (s.length : Int)) = false := by simp; omega
 have t2 : decide ((200 : Int) < (s.length : Int)) = false := by simp; omega
 have HBK := Lib.hid (fun (w1 : World) (v : Value) (h : BookAt w1 v q) => rbook_any v q w1 h)
 rw [hqf] at HBK
 clear hqf
 have HPR := Lib.hid hpr
 have s1 : decide (s = s) = true := by simp
 have s2 : (s == s) = true := by simp
 clear hpr
 clear hrd hrr
 go_enter Tryz.func6, Tryz.ntmps6
 go_wp2_with (first
  | (go_at_call 26; refine (HRD.out _ (Ext.refl _)).mono ?_; rintro e w1 ⟨xa, xc, rfl, hxb, hx1⟩; have hza := (Ext.refl w1).alloc (.cells #[.int .i64 q.years, .slice xa q.rivers.length xc] 24); have HV1 := Lib.hid (hxb.ext hza); have HZ1 := Lib.hid (hx1.trans hza); have y0 : (w1.alloc (.cells #[.int .i64 q.years, .slice xa q.rivers.length xc] 24)).cell? ⟨w1.heap.size, 0, none⟩ = some (.int .i64 q.years) := (by go_simp); have y1 : (w1.alloc (.cells #[.int .i64 q.years, .slice xa q.rivers.length xc] 24)).cell? ⟨w1.heap.size, 1, none⟩ = some (.slice xa q.rivers.length xc) := (by go_simp); have HY := Lib.hid (And.intro y0 y1); clear hx1 hza y0 y1)
  | (go_at_call 29; refine (HRR.out _ HZ1.out).mono ?_; rintro e w2 ⟨qa, qc, rfl, hqb, hx2⟩; have hzb := (Ext.refl w2).alloc (.cells #[.int .i64 q.years, .slice qa q.rivers.length qc] 24); have HV2 := Lib.hid (hqb.ext hzb); have HX12 := Lib.hid (hx2.trans hzb); have y0 := HX12.out.cell HY.out.1; have y1 := HX12.out.cell HY.out.2; have u0 : (w2.alloc (.cells #[.int .i64 q.years, .slice qa q.rivers.length qc] 24)).cell? ⟨w2.heap.size, 0, none⟩ = some (.int .i64 q.years) := (by go_simp); have u1 : (w2.alloc (.cells #[.int .i64 q.years, .slice qa q.rivers.length qc] 24)).cell? ⟨w2.heap.size, 1, none⟩ = some (.slice qa q.rivers.length qc) := (by go_simp); have hr := Ext.refl (w2.alloc (.cells #[.int .i64 q.years, .slice qa q.rivers.length qc] 24)); have HU := Lib.hid (And.intro u0 u1); clear hx2 hzb hqb)
  | (go_at_call 12; refine (HBK.out _ _ (HV2.out.ext hr)).mono ?_; rintro e w5 ⟨rfl, hx5⟩; replace hr := hr.trans hx5; clear y0 y1 u0 u1; have y0 := (HX12.out.trans hr).cell HY.out.1; have y1 := (HX12.out.trans hr).cell HY.out.2; have u0 := hr.cell HU.out.1; have u1 := hr.cell HU.out.2; clear hx5)
  | (go_at_call 25; refine (HPR.out _ _ ((HZ1.out.trans HX12.out).trans hr) (HV1.out.ext (HX12.out.trans hr))).mono ?_; rintro e w4 ⟨rfl, hx4⟩; replace hr := hr.trans hx4; clear y0 y1 u0 u1; have y0 := (HX12.out.trans hr).cell HY.out.1; have y1 := (HX12.out.trans hr).cell HY.out.2; have u0 := hr.cell HU.out.1; have u1 := hr.cell HU.out.2; clear hx4)
  | (go_at_call 28; refine (HSB.out _ _ q _ (HV1.out.ext (HX12.out.trans hr)) (HV2.out.ext hr)).mono ?_; rintro e w6 ⟨rfl, hx6⟩; replace hr := hr.trans hx6; clear hx6)
  | (go_at_call 10; refine (HK.out _ ((HZ1.out.trans HX12.out).trans hr)).mono ?_; rintro e w7 ⟨rfl, hx7⟩; replace hr := hr.trans hx7; clear hx7))
 go_ret
 exact ⟨rfl, (HZ1.out.trans HX12.out).trans hr⟩
theorem riverReads_list (s : List UInt8) (w : World) (ht : TabOk w) (hm : MaxOk w) (hl2 : s.length ≤ 9223372036854775807) : Calls Tryz.prog 6 #[strV s] w (TrueP w) := by
 by_cases h3 : 300 < s.length
 ·exact reads_long s w ht h3 hl2
 have hl : s.length ≤ 300 := by omega
 have HK : ∀ w1, Ext w w1 → Calls Tryz.prog 10 #[] w1 (TrueP w1) := fun w1 h => lknown_any w1 (ht.ext h)
 have HRD := fun w1 (h : Ext w w1) => Read_any s w1 (ht.ext h) (hm.ext h) (by omega)
 have HRR := fun w1 (h : Ext w w1) => rread_any s w1 hl
 by_cases h2 : 200 < s.length
 ·refine reads_a1 s w hl HK (fun w1 h => (HRD w1 h).mono fun e w' hp => ?_) (fun w1 h => (HRR w1 h).mono fun e w' hp => ?_) h2
  ·obtain ⟨v, err, rfl, hx, h5, _, _⟩ := hp
   obtain ⟨rfl, rfl⟩ := h5 h2
   exact ⟨rfl, hx⟩
  ·obtain ⟨v, bo, q, rfl, hx, hqb, _, _⟩ := hp
   obtain ⟨qa, qc, rfl, _⟩ := hqb.slice
   exact ⟨bo, q, qa, qc, rfl, hqb, hx⟩
 have h20 : s.length ≤ 200 := by omega
 by_cases hb : ∃ b, TextOf s b
 ·obtain ⟨b, hb⟩ := hb
  have HRR2 : ∀ w1, Ext w w1 → Calls Tryz.prog 29 #[strV s] w1 fun e w' => ∃ (qa : Option Addr) (qc : Nat), e = .returned (.tuple #[.agg #[.int .i64 b.years, .slice qa b.rivers.length qc], .bool true]) ∧ BookAt w' (.agg #[.int .i64 b.years, .slice qa b.rivers.length qc]) b ∧ Ext w1 w' := fun w1 h => (HRR w1 h).mono fun e w' hp => by
   obtain ⟨v, bo, q, rfl, hx, hqb, g1, g2⟩ := hp
   cases bo with
   | false => exact absurd ⟨b, hb⟩ (g2 rfl)
   | true =>
    have e := textOf_one hb (g1 rfl)
    subst e
    obtain ⟨qa, qc, rfl, _⟩ := hqb.slice
    exact ⟨qa, qc, rfl, hqb, hx⟩
  cases hbb : isBookB b with
  | false =>
   refine reads_a3 s b w hl HK (fun w1 h => (HRD w1 h).mono fun e w' hp => ?_) HRR2 h20 hbb
   obtain ⟨v, err, rfl, hx, _, _, h5⟩ := hp
   obtain ⟨rfl, rfl⟩ := (h5 h20 b hb).2 hbb
   exact ⟨rfl, hx⟩
  | true =>
   refine reads_b s b w hl HK (fun w1 h => (HRD w1 h).mono fun e w' hp => ?_) HRR2 h20 hbb (fun v w1 h hv => ?_)
   ·obtain ⟨v, err, rfl, hx, _, _, h5⟩ := hp
    obtain ⟨rfl, hba⟩ := (h5 h20 b hb).1 hbb
    obtain ⟨a, c, rfl, _⟩ := hba.slice
    exact ⟨a, c, rfl, hba, hx⟩
   ·refine (Print_any v b w1 hv (ht.ext h)).mono fun e w' hp => ?_
    unfold PrintRes at hp
    rw [if_pos hbb, if_pos hbb, hb.2] at hp
    exact hp
 ·refine reads_a2 s w hl HK (fun w1 h => (HRD w1 h).mono fun e w' hp => ?_) (fun w1 h => (HRR w1 h).mono fun e w' hp => ?_) h20
  ·obtain ⟨v, err, rfl, hx, _, h5, _⟩ := hp
   obtain ⟨rfl, rfl⟩ := h5 h20 hb
   exact ⟨rfl, hx⟩
  ·obtain ⟨v, bo, q, rfl, hx, hqb, g1, _⟩ := hp
   cases bo with
   | true => exact absurd ⟨q, g1 rfl⟩ hb
   | false =>
    obtain ⟨qa, qc, rfl, _⟩ := hqb.slice
    exact ⟨q, qa, qc, rfl, hqb, hx⟩
theorem riverReads_any (x : ByteArray) (w : World) (hl : x.size ≤ maxLen) (ht : TabOk w) (hm : MaxOk w) : Calls Tryz.prog 6 #[.string x] w (TrueP w) := by
 have hz : x.data.toList.length = x.size := by show x.data.toList.length = x.data.size; simp
 have h := riverReads_list x.data.toList w ht hm (by unfold maxLen at hl; omega)
 have e : strV x.data.toList = .string x := by
  show Value.string ⟨x.data.toList.toArray⟩ = Value.string x
  rw [Array.toArray_toList]
 rwa [e] at h
end Go.Proofs.YtdmdabhdcpjkiaaGreatDoor
