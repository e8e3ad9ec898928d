/- The law OrderTexts. -/
import Derived.Test.YtoohhefegfpipaaGreatDoorOkn
import Derived.Test.YtoohhefegfpipaaGreatDoorOpt
import Derived.Test.YtoohhefegfpipaaGreatDoorOrrd
import Derived.Test.YtoohhefegfpipaaGreatDoorRbk
import Derived.Test.YtoohhefegfpipaaGreatDoorOsab
namespace Go.Proofs.YtoohhefegfpipaaGreatDoor
open Go.RowKit
abbrev TrueP (w : World) (e : Ending) (w' : World) : Prop := e = .returned (.bool true) ∧ Ext w w'
theorem zero_bk (W : World) : BookAt W zeroBk zeroB := ⟨_, _, rfl, IntsAt.of_owns (base := 0) (e := 3) (v := .slice none 0 0) (xs := []) (World.ownsRow_nil _ _ _ _), RowOf.nil _ _⟩
theorem box4 (w : World) (a b c d : Value) : ((w.alloc (.cells #[a, b, c, d] 25)).cell? ⟨w.heap.size, 0, none⟩ = some a ∧ (w.alloc (.cells #[a, b, c, d] 25)).cell? ⟨w.heap.size, 1, none⟩ = some b ∧ (w.alloc (.cells #[a, b, c, d] 25)).cell? ⟨w.heap.size, 2, none⟩ = some c ∧ (w.alloc (.cells #[a, b, c, d] 25)).cell? ⟨w.heap.size, 3, none⟩ = some d) := by
 have h := World.alloc_heap_new w (.cells #[a, b, c, d] 25)
 exact (block4 h).1
theorem rread_form {s : List UInt8} {w w' : World} {e : Ending} (h : RReadPost s w e w') : ∃ ga gn gc x y ea en ec bo, e = .returned (.tuple #[.agg #[.slice ga gn gc, .int .i64 x, .int .i64 y, .slice ea en ec], .bool bo]) ∧ Ext w w' := by
 obtain ⟨v, bo, rfl, hx, h⟩ := h
 rcases h with ⟨_, _, h⟩ | ⟨_, _, rfl⟩
 ·obtain ⟨ga, gc, ea, ec, rfl, _, _⟩ := h.open
  exact ⟨_, _, _, _, _, _, _, _, _, rfl, hx⟩
 ·exact ⟨_, _, _, _, _, _, _, _, _, rfl, hx⟩
theorem rread_not {s : List UInt8} {w w' : World} {e : Ending} (h : RReadPost s w e w') (hn : isTextB s = false) : e = .returned (.tuple #[zeroBk, .bool false]) ∧ Ext w w' := by
 obtain ⟨v, bo, rfl, hx, h⟩ := h
 rcases h with ⟨h, _, _⟩ | ⟨_, rfl, rfl⟩
 ·rw [hn] at h; cases h
 ·exact ⟨rfl, hx⟩
theorem rread_is {s : List UInt8} {w w' : World} {e : Ending} (h : RReadPost s w e w') (hn : isTextB s = true) : ∃ ga gc ea ec, e = .returned (.tuple #[.agg #[.slice ga (bookOf s).goods.length gc, .int .i64 (bookOf s).editions, .int .i64 (bookOf s).moves, .slice ea (bookOf s).entries.length ec], .bool true]) ∧ BookAt w' (.agg #[.slice ga (bookOf s).goods.length gc, .int .i64 (bookOf s).editions, .int .i64 (bookOf s).moves, .slice ea (bookOf s).entries.length ec]) (bookOf s) ∧ Ext w w' := by
 obtain ⟨v, bo, rfl, hx, h⟩ := h
 rcases h with ⟨_, rfl, h⟩ | ⟨h, _, _⟩
 ·have h2 := h
  obtain ⟨ga, gc, ea, ec, rfl, _, _⟩ := h2.open
  exact ⟨_, _, _, _, rfl, h, hx⟩
 ·rw [hn] at h; cases h
theorem read_zero {s : List UInt8} {w w' : World} {e : Ending} {z : Int} (h : ReadRes s w e w') (hz : (300 < s.length ∧ z = 3) ∨ (s.length ≤ 300 ∧ isTextB s = false ∧ z = 4) ∨ (s.length ≤ 300 ∧ isTextB s = true ∧ isBookB (bookOf s) = false ∧ z = 2)) : e = .returned (.tuple #[zeroBk, .int .i64 z]) ∧ Ext w w' := by
 obtain ⟨v, err, rfl, hx, h1, h2, h3⟩ := h
 rcases hz with ⟨a, rfl⟩ | ⟨a, b, rfl⟩ | ⟨a, b, c, rfl⟩
 ·obtain ⟨rfl, rfl⟩ := h1 a; exact ⟨rfl, hx⟩
 ·obtain ⟨rfl, rfl⟩ := h2 a b; exact ⟨rfl, hx⟩
 ·obtain ⟨rfl, rfl⟩ := (h3 a b).2 c; exact ⟨rfl, hx⟩
theorem read_bookR {s : List UInt8} {w w' : World} {e : Ending} (h : ReadRes s w e w') (a : s.length ≤ 300) (b : isTextB s = true) (c : isBookB (bookOf s) = true) : ∃ ga gc ea ec, e = .returned (.tuple #[.agg #[.slice ga (bookOf s).goods.length gc, .int .i64 (bookOf s).editions, .int .i64 (bookOf s).moves, .slice ea (bookOf s).entries.length ec], .int .i64 0]) ∧ BookAt w' (.agg #[.slice ga (bookOf s).goods.length gc, .int .i64 (bookOf s).editions, .int .i64 (bookOf s).moves, .slice ea (bookOf s).entries.length ec]) (bookOf s) ∧ Ext w w' := by
 obtain ⟨v, err, rfl, hx, h1, h2, h3⟩ := h
 obtain ⟨rfl, h⟩ := (h3 a b).1 c
 have h4 := h
 obtain ⟨ga, gc, ea, ec, rfl, _, _⟩ := h4.open
 exact ⟨_, _, _, _, rfl, h, hx⟩
set_option maxRecDepth 100000 in
set_option maxHeartbeats 16000000 in
theorem texts_list (s : List UInt8) (w : World) (ht : TabOk w) (hm : MaxOk w) (hl2 : s.length ≤ 9223372036854775807) : Calls Tryz.prog 8 #[strV s] w (TrueP w) := by
 have hsz := size_str s
 have HKN := Lib.hid (fun w1 (h : Ext w w1) => lknown_any w1 (ht.ext h) (hm.ext h))
 by_cases h4 : 400 < s.length
 ·have t1 : decide ((400 : Int) < (s.length : Int)) = true := by simp; omega
  have t2 : decide (400 < s.length) = true := by simpa using h4
  clear h4 ht hm
  go_enter Tryz.func8, Tryz.ntmps8
  go_wp2_with (go_at_call 11; refine (HKN.out _ (Ext.refl w)).mono ?_; rintro e w6 ⟨rfl, hx6⟩)
  go_ret
  exact ⟨rfl, hx6⟩
 have t1 : decide ((400 : Int) < (s.length : Int)) = false := by simp; omega
 have t2 : decide (400 < s.length) = false := by simpa using h4
 have HRD := Lib.hid (fun w1 (h : Ext w w1) => Read_any s w1 (ht.ext h) (hm.ext h) (by omega))
 have HRR := Lib.hid (fun w1 (_ : Ext w w1) => rread_any s w1 (by omega))
 by_cases h3 : 300 < s.length
 ·have t3 : decide ((300 : Int) < (s.length : Int)) = true := by simp; omega
  have t4 : decide (300 < s.length) = true := by simpa using h3
  replace HRD := Lib.hid (fun w1 (h : Ext w w1) => (HRD.out w1 h).mono (fun e w' q => read_zero (z := 3) (show ReadRes s w1 e w' from q) (.inl ⟨h3, rfl⟩)))
  replace HRR := Lib.hid (fun w1 (h : Ext w w1) => (HRR.out w1 h).mono (fun e w' q => rread_form (show RReadPost s w1 e w' from q)))
  clear h3 h4 ht hm
  go_enter Tryz.func8, Tryz.ntmps8
  go_wp2_with (first | (go_at_call 42; refine (HRD.out _ (Ext.refl w)).mono ?_; rintro e w1 ⟨rfl, hx1⟩; clear HRD; obtain ⟨y0, y1, y2, y3⟩ := box4 w1 (.slice none 0 0) (.int .i64 0) (.int .i64 0) (.slice none 0 0); have HX1 := Lib.hid (hx1.alloc (.cells #[.slice none 0 0, .int .i64 0, .int .i64 0, .slice none 0 0] 25)); clear hx1) | (go_at_call 45; refine (HRR.out _ HX1.out).mono ?_; rintro e w2 ⟨ga, gn, gc, bx, by_, ea, en, ec, bo, rfl, hx2⟩; clear HRR; have hx3 := hx2.alloc (.cells #[.slice ga gn gc, .int .i64 bx, .int .i64 by_, .slice ea en ec] 25); have u0 := hx3.cell y0; have u1 := hx3.cell y1; have u2 := hx3.cell y2; have u3 := hx3.cell y3; clear y0 y1 y2 y3; have HX3 := Lib.hid (HX1.out.trans hx3); clear hx2 hx3) | (go_at_call 44; refine (sameB_yes zeroBk zeroBk zeroB _ (zero_bk _) (zero_bk _)).mono ?_; rintro e w5 ⟨rfl, hx5⟩; have HX5 := Lib.hid (HX3.out.trans hx5); clear hx5) | (go_at_call 11; refine (HKN.out _ HX5.out).mono ?_; rintro e w6 ⟨rfl, hx6⟩))
  go_ret
  exact ⟨rfl, HX5.out.trans hx6⟩
 have t3 : decide ((300 : Int) < (s.length : Int)) = false := by simp; omega
 have t4 : decide (300 < s.length) = false := by simpa using h3
 cases hi : isTextB s with
 | false =>
  replace HRD := Lib.hid (fun w1 (h : Ext w w1) => (HRD.out w1 h).mono (fun e w' q => read_zero (z := 4) (show ReadRes s w1 e w' from q) (.inr (.inl ⟨by omega, hi, rfl⟩))))
  replace HRR := Lib.hid (fun w1 (h : Ext w w1) => (HRR.out w1 h).mono (fun e w' q => rread_not (show RReadPost s w1 e w' from q) hi))
  clear h3 h4 ht hm hi
  go_enter Tryz.func8, Tryz.ntmps8
  go_wp2_with (first | (go_at_call 42; refine (HRD.out _ (Ext.refl w)).mono ?_; rintro e w1 ⟨rfl, hx1⟩; clear HRD; obtain ⟨y0, y1, y2, y3⟩ := box4 w1 (.slice none 0 0) (.int .i64 0) (.int .i64 0) (.slice none 0 0); have HX1 := Lib.hid (hx1.alloc (.cells #[.slice none 0 0, .int .i64 0, .int .i64 0, .slice none 0 0] 25)); clear hx1) | (go_at_call 45; refine (HRR.out _ HX1.out).mono ?_; rintro e w2 ⟨rfl, hx2⟩; clear HRR; have hx3 := hx2.alloc (.cells #[.slice none 0 0, .int .i64 0, .int .i64 0, .slice none 0 0] 25); have u0 := hx3.cell y0; have u1 := hx3.cell y1; have u2 := hx3.cell y2; have u3 := hx3.cell y3; clear y0 y1 y2 y3; have HX3 := Lib.hid (HX1.out.trans hx3); clear hx2 hx3) | (go_at_call 44; refine (sameB_yes zeroBk zeroBk zeroB _ (zero_bk _) (zero_bk _)).mono ?_; rintro e w5 ⟨rfl, hx5⟩; have HX5 := Lib.hid (HX3.out.trans hx5); clear hx5) | (go_at_call 11; refine (HKN.out _ HX5.out).mono ?_; rintro e w6 ⟨rfl, hx6⟩))
  go_ret
  exact ⟨rfl, HX5.out.trans hx6⟩
 | true =>
 have HBK := Lib.hid (fun v w1 (hv : BookAt w1 v (bookOf s)) => rbook_any v (bookOf s) w1 hv)
 replace HRR := Lib.hid (fun w1 (h : Ext w w1) => (HRR.out w1 h).mono (fun e w' q => rread_is (show RReadPost s w1 e w' from q) hi))
 cases hk : isBookB (bookOf s) with
 | false =>
  replace HRD := Lib.hid (fun w1 (h : Ext w w1) => (HRD.out w1 h).mono (fun e w' q => read_zero (z := 2) (show ReadRes s w1 e w' from q) (.inr (.inr ⟨by omega, hi, hk, rfl⟩))))
  rw [hk] at HBK
  clear h3 h4 ht hm hi hk
  go_enter Tryz.func8, Tryz.ntmps8
  go_wp2_with (first | (go_at_call 42; refine (HRD.out _ (Ext.refl w)).mono ?_; rintro e w1 ⟨rfl, hx1⟩; clear HRD; obtain ⟨y0, y1, y2, y3⟩ := box4 w1 (.slice none 0 0) (.int .i64 0) (.int .i64 0) (.slice none 0 0); have HX1 := Lib.hid (hx1.alloc (.cells #[.slice none 0 0, .int .i64 0, .int .i64 0, .slice none 0 0] 25)); clear hx1) | (go_at_call 45; refine (HRR.out _ HX1.out).mono ?_; rintro e w2 ⟨ga, gc, ea, ec, rfl, hb2, hx2⟩; clear HRR; have hza := (Ext.refl w2).alloc (.cells #[.slice ga (bookOf s).goods.length gc, .int .i64 (bookOf s).editions, .int .i64 (bookOf s).moves, .slice ea (bookOf s).entries.length ec] 25); have hx3 := hx2.trans hza; have u0 := hx3.cell y0; have u1 := hx3.cell y1; have u2 := hx3.cell y2; have u3 := hx3.cell y3; clear y0 y1 y2 y3; obtain ⟨p0, p1, p2, p3⟩ := box4 w2 (.slice ga (bookOf s).goods.length gc) (.int .i64 (bookOf s).editions) (.int .i64 (bookOf s).moves) (.slice ea (bookOf s).entries.length ec); have HBX := Lib.hid (hb2.ext hza); have HX3 := Lib.hid (HX1.out.trans hx3); have HY3 := Lib.hid hx3; clear hx2 hx3 hza hb2) | (go_at_call 22; refine (HBK.out _ _ HBX.out).mono ?_; rintro e w4 ⟨rfl, hx4⟩; clear HBK; have v0 := hx4.cell u0; have v1 := hx4.cell u1; have v2 := hx4.cell u2; have v3 := hx4.cell u3; have q0 := hx4.cell p0; have q1 := hx4.cell p1; have q2 := hx4.cell p2; have q3 := hx4.cell p3; have HX4 := Lib.hid (HX3.out.trans hx4); have HB4 := Lib.hid (HBX.out.ext hx4); have HY4 := Lib.hid (HY3.out.trans hx4); clear hx4 u0 u1 u2 u3 p0 p1 p2 p3) | (go_at_call 44; refine (sameB_yes zeroBk zeroBk zeroB _ (zero_bk _) (zero_bk _)).mono ?_; rintro e w5 ⟨rfl, hx5⟩; have HX5 := Lib.hid (HX4.out.trans hx5); clear hx5) | (go_at_call 11; refine (HKN.out _ HX5.out).mono ?_; rintro e w6 ⟨rfl, hx6⟩))
  go_ret
  exact ⟨rfl, HX5.out.trans hx6⟩
 | true =>
 replace HRD := Lib.hid (fun w1 (h : Ext w w1) => (HRD.out w1 h).mono (fun e w' q => read_bookR (show ReadRes s w1 e w' from q) (by omega) hi hk))
 have HPR := Lib.hid (fun v w1 (h : Ext w w1) (hv : BookAt w1 v (bookOf s)) => print_any v (bookOf s) w1 hv (ht.ext h))
 unfold PrintRes at HPR
 rw [if_pos hk, if_pos hk, (isText_iff.1 hi).2] at HPR
 rw [hk] at HBK
 have q1 : decide (s = s) = true := by simp
 have q2 : (s == s) = true := by simp
 clear h3 h4 ht hm hi hk
 go_enter Tryz.func8, Tryz.ntmps8
 go_wp2_with (first | (go_at_call 42; refine (HRD.out _ (Ext.refl w)).mono ?_; rintro e w1 ⟨ga1, gc1, ea1, ec1, rfl, hb1, hx1⟩; clear HRD; have hza := (Ext.refl w1).alloc (.cells #[.slice ga1 (bookOf s).goods.length gc1, .int .i64 (bookOf s).editions, .int .i64 (bookOf s).moves, .slice ea1 (bookOf s).entries.length ec1] 25); obtain ⟨y0, y1, y2, y3⟩ := box4 w1 (.slice ga1 (bookOf s).goods.length gc1) (.int .i64 (bookOf s).editions) (.int .i64 (bookOf s).moves) (.slice ea1 (bookOf s).entries.length ec1); have HX1 := Lib.hid (hx1.trans hza); have HB1 := Lib.hid (hb1.ext hza); clear hx1 hb1 hza) | (go_at_call 45; refine (HRR.out _ HX1.out).mono ?_; rintro e w2 ⟨ga, gc, ea, ec, rfl, hb2, hx2⟩; clear HRR; have hza := (Ext.refl w2).alloc (.cells #[.slice ga (bookOf s).goods.length gc, .int .i64 (bookOf s).editions, .int .i64 (bookOf s).moves, .slice ea (bookOf s).entries.length ec] 25); have hx3 := hx2.trans hza; have u0 := hx3.cell y0; have u1 := hx3.cell y1; have u2 := hx3.cell y2; have u3 := hx3.cell y3; clear y0 y1 y2 y3; obtain ⟨p0, p1, p2, p3⟩ := box4 w2 (.slice ga (bookOf s).goods.length gc) (.int .i64 (bookOf s).editions) (.int .i64 (bookOf s).moves) (.slice ea (bookOf s).entries.length ec); have HBX := Lib.hid (hb2.ext hza); have HX3 := Lib.hid (HX1.out.trans hx3); have HY3 := Lib.hid hx3; clear hx2 hx3 hza hb2) | (go_at_call 22; refine (HBK.out _ _ HBX.out).mono ?_; rintro e w4 ⟨rfl, hx4⟩; clear HBK; have v0 := hx4.cell u0; have v1 := hx4.cell u1; have v2 := hx4.cell u2; have v3 := hx4.cell u3; have q0 := hx4.cell p0; have q1 := hx4.cell p1; have q2 := hx4.cell p2; have q3 := hx4.cell p3; have HX4 := Lib.hid (HX3.out.trans hx4); have HB4 := Lib.hid (HBX.out.ext hx4); have HY4 := Lib.hid (HY3.out.trans hx4); clear hx4 u0 u1 u2 u3 p0 p1 p2 p3) | (go_at_call 41; refine (HPR.out _ _ HX4.out (HB1.out.ext HY4.out)).mono ?_; rintro e w5 ⟨rfl, hx5⟩; clear HPR; have t0 := hx5.cell v0; have t1 := hx5.cell v1; have t2 := hx5.cell v2; have t3 := hx5.cell v3; have s0 := hx5.cell q0; have s1 := hx5.cell q1; have s2 := hx5.cell q2; have s3 := hx5.cell q3; have HX5 := Lib.hid (HX4.out.trans hx5); have HB5 := Lib.hid (HB4.out.ext hx5); have HA5 := Lib.hid (HB1.out.ext (HY4.out.trans hx5)); clear hx5 v0 v1 v2 v3 q0 q1 q2 q3) | (go_at_call 44; refine (sameB_yes _ _ (bookOf s) _ HA5.out HB5.out).mono ?_; rintro e w6 ⟨rfl, hx6⟩; have HX6 := Lib.hid (HX5.out.trans hx6); clear hx6) | (go_at_call 11; refine (HKN.out _ HX6.out).mono ?_; rintro e w7 ⟨rfl, hx7⟩))
 go_ret
 exact ⟨rfl, HX6.out.trans hx7⟩
theorem orderTexts_any (x : ByteArray) (w : World) (hl : x.size ≤ maxLen) (ht : TabOk w) (hm : MaxOk w) : Calls Tryz.prog 8 #[.string x] w fun e w' => e = .returned (.bool true) ∧ Ext w w' := by
 have h := texts_list x.data.toList w ht hm (by
  have e : x.data.toList.length = x.size := by show x.data.toList.length = x.data.size; simp
  have : maxLen = 9223372036854775807 := rfl
  omega)
 have e : strV x.data.toList = .string x := by
  show Value.string ⟨x.data.toList.toArray⟩ = _
  rw [Array.toArray_toList]
 rwa [e] at h
end Go.Proofs.YtoohhefegfpipaaGreatDoor
