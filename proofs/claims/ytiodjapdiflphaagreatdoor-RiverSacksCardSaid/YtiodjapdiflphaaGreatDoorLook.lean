/- Walks: has, isRiver, isYear, isShell, isBook, isSack, and what they lean on. -/
import Derived.Test.YtiodjapdiflphaaGreatDoorBookq
import Derived.Test.YtiodjapdiflphaaGreatDoorHeldq
import Derived.Deep.RegionHeld3
import Derived.Deep.Cut
import Derived.Deep.QuietTactic
import Derived.BigQuiet
import Derived.IntWalk
namespace Go.Proofs.YtiodjapdiflphaaGreatDoor
open Go.RowKit
theorem and_i64 (a b : Nat) (ha : a < 4611686018427387904) (hb : b < 4611686018427387904) : bits .and .i64 (a : Int) (b : Int) = ((a &&& b : Nat) : Int) := by
 have hx : a &&& b < 2 ^ 62 := Nat.and_lt_two_pow _ (by omega)
 have h1 : (BitVec.ofInt 64 (a : Int)).toNat = a := by
  rw [BitVec.ofInt_natCast, BitVec.toNat_ofNat]; exact Nat.mod_eq_of_lt (by omega)
 have h2 : (BitVec.ofInt 64 (b : Int)).toNat = b := by
  rw [BitVec.ofInt_natCast, BitVec.toNat_ofNat]; exact Nat.mod_eq_of_lt (by omega)
 show IntKind.i64.wrap ((BitVec.ofInt 64 (a : Int) &&& BitVec.ofInt 64 (b : Int)).toNat : Int) = _
 rw [BitVec.toNat_and, h1, h2]
 refine IntWalk.i64_in _ ?_
 omega
theorem or_i64 (a b : Nat) (ha : a < 4611686018427387904) (hb : b < 4611686018427387904) : bits .or .i64 (a : Int) (b : Int) = ((a ||| b : Nat) : Int) := by
 have hx : a ||| b < 2 ^ 62 := Nat.or_lt_two_pow (by omega) (by omega)
 have h1 : (BitVec.ofInt 64 (a : Int)).toNat = a := by
  rw [BitVec.ofInt_natCast, BitVec.toNat_ofNat]; exact Nat.mod_eq_of_lt (by omega)
 have h2 : (BitVec.ofInt 64 (b : Int)).toNat = b := by
  rw [BitVec.ofInt_natCast, BitVec.toNat_ofNat]; exact Nat.mod_eq_of_lt (by omega)
 show IntKind.i64.wrap ((BitVec.ofInt 64 (a : Int) ||| BitVec.ofInt 64 (b : Int)).toNat : Int) = _
 rw [BitVec.toNat_or, h1, h2]
 refine IntWalk.i64_in _ ?_
 omega
theorem has_bits (s n : Nat) (hs : s < 4611686018427387904) : (bits .and .i64 ((s : Int) / 2 ^ n) 1 == 1) = s.testBit n := by
 have hd : s / 2 ^ n ≤ s := Nat.div_le_self _ _
 have e : ((s : Int) / 2 ^ n) = ((s / 2 ^ n : Nat) : Int) := by simp
 rw [e, show (1 : Int) = ((1 : Nat) : Int) from rfl, and_i64 _ _ (by omega) (by omega), Nat.testBit_eq_decide_div_mod_eq, Nat.and_one_is_mod, Bool.eq_iff_iff]
 simp only [beq_iff_eq, decide_eq_true_eq]
 omega
theorem has_any (s n : Nat) (w : World) (hs : s < 4611686018427387904) (hn : n < 64) :
  Calls Tryz.prog 74 #[.int .i64 s, .int .i64 n] w fun e w' => e = .returned (.bool (s.testBit n)) ∧ w = w' := by
 go_enter Tryz.func74, Tryz.ntmps74
 go_wp2
 go_ret
 exact ⟨by rw [← has_bits s n hs]; rfl, rfl⟩
theorem isRiver_any (rv : Value) (b : Book) (n : Int) (w : World) (hb : BookAt w (.agg #[.int .i64 b.years, rv]) b) :
  Calls Tryz.prog 60 #[.agg #[.int .i64 b.years, rv], .int .i64 n] w fun e w' => e = .returned (.bool (inB n 0 (b.rivers.length - 1))) ∧ Ext w w' := by
 obtain ⟨_, hv, xs, hx, hr, _⟩ := hb
 cases hv
 obtain ⟨a, c, rfl, h1, h2, _⟩ := RowAt.open hr
 have hl : xs.length = b.rivers.length := by rw [← hx]; simp
 rw [← hl]
 clear hx hr hl
 go_enter Tryz.func60, Tryz.ntmps60
 go_wp2_with (go_at_call 36; refine (in_any _ _ _ _).mono ?_; rintro e w' ⟨rfl, rfl⟩)
 go_ret
 exact ⟨rfl, (Ext.refl w).alloc _⟩
theorem isYear_any (rv : Value) (y n : Int) (w : World) (hr : ∃ a k c, rv = .slice a k c) (h1 : 1 ≤ y) (h2 : y ≤ 1000000) :
  Calls Tryz.prog 61 #[.agg #[.int .i64 y, rv], .int .i64 n] w fun e w' => e = .returned (.bool (inB n 0 (y - 1))) ∧ Ext w w' := by
 obtain ⟨a, k, c, rfl⟩ := hr
 go_enter Tryz.func61, Tryz.ntmps61
 go_wp2_with (go_at_call 36; refine (in_any _ _ _ _).mono ?_; rintro e w' ⟨rfl, rfl⟩)
 go_ret
 exact ⟨rfl, (Ext.refl w).alloc _⟩
/-! ### Spans -/
theorem isBook11_any (s : Int × Int) (w : World) :
  Calls Tryz.prog 83 #[.agg #[.int .i64 s.1, .int .i64 s.2]] w fun e w' => e = .returned (.bool (badSpan s)) ∧ Ext w w' := by
 obtain ⟨lo, hi⟩ := s
 by_cases h1 : inB lo 0 hi = true
 ·obtain ⟨h3, h4⟩ := inB_iff.1 h1
  by_cases h2 : hi ≤ 40
  ·go_enter Tryz.func83, Tryz.ntmps83
   go_wp2_with (go_at_call 36; refine (in_any _ _ _ _).mono ?_; rintro e w' ⟨rfl, rfl⟩)
   all_goals go_ret
   all_goals exact ⟨by simp [badSpan, *], (Ext.refl w).alloc _⟩
  ·go_enter Tryz.func83, Tryz.ntmps83
   go_wp2_with (go_at_call 36; refine (in_any _ _ _ _).mono ?_; rintro e w' ⟨rfl, rfl⟩)
   all_goals go_ret
   all_goals exact ⟨by simp [badSpan, *], (Ext.refl w).alloc _⟩
 ·have h1' : inB lo 0 hi = false := by simpa using h1
  go_enter Tryz.func83, Tryz.ntmps83
  go_wp2_with (go_at_call 36; refine (in_any _ _ _ _).mono ?_; rintro e w' ⟨rfl, rfl⟩)
  all_goals go_ret
  all_goals exact ⟨by simp [badSpan, *], (Ext.refl w).alloc _⟩
theorem enters_isBook11 : ∀ args w, (callFunc 83 args).run Tryz.prog w = .ok (.enter 83 args) w := enters_of Tryz.func83 (by kernel_rfl) rfl
theorem contains_isBook11 (v : Value) (l : List (Int × Int)) (w : World) (hv : PairsAt w v l) :
  Calls Tryz.prog 82 #[v, .func (.func 83) #[] #[]] w fun e w' => e = .returned (.bool (l.any badSpan)) ∧ Ext w w' :=
 containsFuncS (f := pairC) (fun s => .int .i64 s.1) (fun s => .int .i64 s.2) (fun _ => rfl) v _ _ _ l w hv (fun x _ w1 _ => isBook11_any x w1) enters_isBook11
end Go.Proofs.YtiodjapdiflphaaGreatDoor
/- Walks: isBook. -/
namespace Go.Proofs.YtiodjapdiflphaaGreatDoor
open Go.RowKit
theorem two_pow_years (n : Nat) (h : n ≤ 6) : IntKind.i64.wrap (2 ^ n) = 2 ^ n ∧ IntKind.i64.wrap (2 ^ n - 1) = 2 ^ n - 1 := by
 have : (2 : Int) ^ n ≤ 64 ∧ (1 : Int) ≤ 2 ^ n := by
  rcases (by omega : n = 0 ∨ n = 1 ∨ n = 2 ∨ n = 3 ∨ n = 4 ∨ n = 5 ∨ n = 6) with h | h | h | h | h | h | h <;> subst h <;> decide
 exact ⟨IntWalk.i64_in _ (by omega), IntWalk.i64_in _ (by omega)⟩
set_option maxRecDepth 100000 in
set_option maxHeartbeats 4000000 in
theorem isBook1_a (ga : Option Addr) (gc : Nat) (r : River) (b n : Nat) (w : World) (hg : PairsAt w (.slice ga r.grow.length gc) r.grow) (hb : w.cell? ⟨b, 0, none⟩ = some (.int .i64 (n : Int))) (hl : ¬ r.grow.length = n) :
  Calls Tryz.prog 81 #[.agg #[.slice ga r.grow.length gc, .int .i64 r.vary, .int .i64 r.closed], .pointer (some ⟨b, 0, none⟩)] w fun e w' => e = .returned (.bool true) ∧ Ext w w' := by
 have HC := Lib.hid (fun w1 (hx : Ext w w1) => contains_isBook11 (.slice ga r.grow.length gc) r.grow w1 (hg.ext hx))
 have hmix : Tryz.prog.follows .mixedOrders = true := by kernel_rfl
 have hx0 : Ext w (w.alloc (.cells #[.slice ga r.grow.length gc, .int .i64 r.vary, .int .i64 r.closed] 62)) := (Ext.refl w).alloc _
 have HS := Lib.hid (fun W (h : Ext (w.alloc (.cells #[.slice ga r.grow.length gc, .int .i64 r.vary, .int .i64 r.closed] 62)) W) => (⟨h.cell (by go_simp), h.cell (by go_simp), h.cell (by go_simp), (hx0.trans h).cell hb⟩ : (fun w' => w'.cell? ⟨w.heap.size, 0, none⟩ = some (.slice ga r.grow.length gc) ∧ w'.cell? ⟨w.heap.size, 1, none⟩ = some (.int .i64 r.vary) ∧ w'.cell? ⟨w.heap.size, 2, none⟩ = some (.int .i64 r.closed) ∧ w'.cell? ⟨b, 0, none⟩ = some (.int .i64 (n : Int))) W))
 have t1 : ((r.grow.length : Int) != (n : Int)) = true := by rw [bne_iff_ne]; omega
 clear hl
 clear hg hb
 go_enter Tryz.func81, Tryz.ntmps81
 go_upto_region 1 with fail
 refine wp_region_held_drew (S := (fun w' => w'.cell? ⟨w.heap.size, 0, none⟩ = some (.slice ga r.grow.length gc) ∧ w'.cell? ⟨w.heap.size, 1, none⟩ = some (.int .i64 r.vary) ∧ w'.cell? ⟨w.heap.size, 2, none⟩ = some (.int .i64 r.closed) ∧ w'.cell? ⟨b, 0, none⟩ = some (.int .i64 (n : Int)))) (by kernel_rfl) ?_ (fun hHeld => ?_)
 ·exact HS.out _ (by repeat (first | exact hxv | exact Ext.refl _ | apply Ext.drew | apply Ext.alloc))
 refine hTk (i := 0) (d := some 4) (v := ?_) (fun o ho => ?_) hHeld ?_
 rotate_left
 ·simp only [zA, zB, zD] at ho
  subst ho
  refine ⟨by rfl, fun w hSw => ?_⟩
  (try dsimp only at hSw)
  go_simp
  try with_reducible rfl
 try simp only [Act.put, yA, yB, yC]
 refine hTk (i := 1) (d := some 5) (v := ?_) (fun o ho => ?_) hHeld ?_
 rotate_left
 ·simp only [zA, zB, zC, zD] at ho
  subst ho
  refine ⟨by rfl, fun w hSw => ?_⟩
  (try dsimp only at hSw)
  go_simp
  try with_reducible rfl
 try simp only [Act.put, yA, yB, yC]
 refine hTk (i := 2) (d := some 6) (v := ?_) (fun o ho => ?_) hHeld ?_
 rotate_left
 ·simp only [zA, zB, zC, zD] at ho
  subst ho
  refine ⟨by rfl, fun w hSw => ?_⟩
  (try dsimp only at hSw)
  go_simp
  try with_reducible rfl
 try simp only [Act.put, yA, yB, yC]
 refine hTk (i := 3) (d := some 7) (v := ?_) (fun o ho => ?_) hHeld ?_
 rotate_left
 ·simp only [zA, zB, zC, zD] at ho
  subst ho
  refine ⟨by rfl, fun w hSw => ?_⟩
  (try dsimp only at hSw)
  go_simp
  try with_reducible rfl
 try simp only [Act.put, yA, yB, yC]
 refine hTk (i := 4) (d := some 8) (v := ?_) (fun o ho => ?_) hHeld ?_
 rotate_left
 ·simp only [zA, zB, zC, zD] at ho
  subst ho
  refine ⟨by rfl, fun w hSw => ?_⟩
  (try dsimp only at hSw)
  go_simp
  try with_reducible rfl
 try simp only [Act.put, yA, yB, yC]
 refine hTk (i := 5) (d := some 9) (v := ?_) (fun o ho => ?_) hHeld ?_
 rotate_left
 ·simp only [zA, zB, zC, zD] at ho
  subst ho
  refine ⟨by rfl, fun w hSw => ?_⟩
  (try dsimp only at hSw)
  go_simp
  try with_reducible rfl
 try simp only [Act.put, yA, yB, yC]
 refine hTk (i := 6) (d := some 10) (v := ?_) (fun o ho => ?_) hHeld ?_
 rotate_left
 ·simp only [zA, zB, zC, zD] at ho
  subst ho
  refine ⟨by rfl, fun w hSw => ?_⟩
  (try dsimp only at hSw)
  go_simp
  try with_reducible rfl
 try simp only [Act.put, yA, yB, yC]
 refine held_skips (is := [7, 8, 9, 10]) (k := 4) (l' := #[true, true, true, true, true, true, true, true, true, true, true, false, false, false, false, false, false, false, false, false, false, false, false, false, false, false, false, false]) (by kernel_rfl) rfl (by assumption) ?_
 refine hTk (i := 11) (d := some 15) (v := ?_) (fun o ho => ?_) hHeld ?_
 rotate_left
 ·simp only [zA, zB, zC, zD] at ho
  subst ho
  refine ⟨by rfl, fun w hSw => ?_⟩
  (try dsimp only at hSw)
  go_simp
  try with_reducible rfl
 try simp only [Act.put, yA, yB, yC]
 refine hTk (i := 12) (d := some 16) (v := ?_) (fun o ho => ?_) hHeld ?_
 rotate_left
 ·simp only [zA, zB, zC, zD] at ho
  subst ho
  refine ⟨by rfl, fun w hSw => ?_⟩
  (try dsimp only at hSw)
  go_simp
  try with_reducible rfl
 try simp only [Act.put, yA, yB, yC]
 refine held_skips (is := [13, 14, 15, 16, 17, 18, 19, 20]) (k := 8) (l' := #[true, true, true, true, true, true, true, true, true, true, true, true, true, true, true, true, true, true, true, true, true, false, false, false, false, false, false, false]) (by kernel_rfl) rfl (by assumption) ?_
 refine hTk (i := 21) (d := some 25) (v := ?_) (fun o ho => ?_) hHeld ?_
 rotate_left
 ·simp only [zA, zB, zC, zD] at ho
  subst ho
  refine ⟨by rfl, fun w hSw => ?_⟩
  (try dsimp only at hSw)
  go_simp
  try with_reducible rfl
 try simp only [Act.put, yA, yB, yC]
 refine hTk (i := 22) (d := some 26) (v := ?_) (fun o ho => ?_) hHeld ?_
 rotate_left
 ·simp only [zA, zB, zC, zD] at ho
  subst ho
  refine ⟨by rfl, fun w hSw => ?_⟩
  (try dsimp only at hSw)
  go_simp
  try with_reducible rfl
 try simp only [Act.put, yA, yB, yC]
 refine held_skips (is := [23, 24, 25]) (k := 3) (l' := #[true, true, true, true, true, true, true, true, true, true, true, true, true, true, true, true, true, true, true, true, true, true, true, true, true, true, false, false]) (by kernel_rfl) rfl (by assumption) ?_
 refine hTk (i := 26) (d := some 30) (v := ?_) (fun o ho => ?_) hHeld ?_
 rotate_left
 ·simp only [zA, zB, zC, zD] at ho
  subst ho
  refine ⟨by rfl, fun w hSw => ?_⟩
  (try dsimp only at hSw)
  go_simp
  try with_reducible rfl
 try simp only [Act.put, yA, yB, yC]
 refine wpAnyH_ready (rs := [27]) (by kernel_rfl) (by simp) ?_
 refine held_step (i := 27) (by kernel_rfl) (fun o ho K' hK => ?_) ?_
 ·simp only [zA, zB, zC, zD] at ho
  subst ho
  go_simp
  refine hK.out _ _ ?_ (fun hHeld => ?_)
  ·exact HS.out _ (by repeat (first | exact hxv | exact Ext.refl _ | apply Ext.drew | apply Ext.alloc))
  clear hK K'
  try simp only [yA, yB, yC]
  refine wpAnyH_done (by kernel_rfl) ?_ _
  try simp only [yA, yB, yC]
  go_wp2
  go_ret
  exact ⟨rfl, ((Ext.refl w).alloc _).drew⟩
 exact AllReadyH.nil
set_option maxRecDepth 100000 in
set_option maxHeartbeats 4000000 in
theorem isBook1_b (ga : Option Addr) (gc : Nat) (r : River) (b n : Nat) (w : World) (hg : PairsAt w (.slice ga r.grow.length gc) r.grow) (hb : w.cell? ⟨b, 0, none⟩ = some (.int .i64 (n : Int))) (hl : r.grow.length = n) (hv : inB r.vary 0 3 = false) :
  Calls Tryz.prog 81 #[.agg #[.slice ga r.grow.length gc, .int .i64 r.vary, .int .i64 r.closed], .pointer (some ⟨b, 0, none⟩)] w fun e w' => e = .returned (.bool true) ∧ Ext w w' := by
 have HC := Lib.hid (fun w1 (hx : Ext w w1) => contains_isBook11 (.slice ga r.grow.length gc) r.grow w1 (hg.ext hx))
 have hmix : Tryz.prog.follows .mixedOrders = true := by kernel_rfl
 have hx0 : Ext w (w.alloc (.cells #[.slice ga r.grow.length gc, .int .i64 r.vary, .int .i64 r.closed] 62)) := (Ext.refl w).alloc _
 have HS := Lib.hid (fun W (h : Ext (w.alloc (.cells #[.slice ga r.grow.length gc, .int .i64 r.vary, .int .i64 r.closed] 62)) W) => (⟨h.cell (by go_simp), h.cell (by go_simp), h.cell (by go_simp), (hx0.trans h).cell hb⟩ : (fun w' => w'.cell? ⟨w.heap.size, 0, none⟩ = some (.slice ga r.grow.length gc) ∧ w'.cell? ⟨w.heap.size, 1, none⟩ = some (.int .i64 r.vary) ∧ w'.cell? ⟨w.heap.size, 2, none⟩ = some (.int .i64 r.closed) ∧ w'.cell? ⟨b, 0, none⟩ = some (.int .i64 (n : Int))) W))
 have t1 : ((r.grow.length : Int) != (n : Int)) = false := by rw [bne_eq_false_iff_eq]; omega
 clear hl
 clear hg hb
 go_enter Tryz.func81, Tryz.ntmps81
 go_upto_region 1 with fail
 refine wp_region_held_drew (S := (fun w' => w'.cell? ⟨w.heap.size, 0, none⟩ = some (.slice ga r.grow.length gc) ∧ w'.cell? ⟨w.heap.size, 1, none⟩ = some (.int .i64 r.vary) ∧ w'.cell? ⟨w.heap.size, 2, none⟩ = some (.int .i64 r.closed) ∧ w'.cell? ⟨b, 0, none⟩ = some (.int .i64 (n : Int)))) (by kernel_rfl) ?_ (fun hHeld => ?_)
 ·exact HS.out _ (by repeat (first | exact hxv | exact Ext.refl _ | apply Ext.drew | apply Ext.alloc))
 refine hTk (i := 0) (d := some 4) (v := ?_) (fun o ho => ?_) hHeld ?_
 rotate_left
 ·simp only [zA, zB, zD] at ho
  subst ho
  refine ⟨by rfl, fun w hSw => ?_⟩
  (try dsimp only at hSw)
  go_simp
  try with_reducible rfl
 try simp only [Act.put, yA, yB, yC]
 refine hTk (i := 1) (d := some 5) (v := ?_) (fun o ho => ?_) hHeld ?_
 rotate_left
 ·simp only [zA, zB, zC, zD] at ho
  subst ho
  refine ⟨by rfl, fun w hSw => ?_⟩
  (try dsimp only at hSw)
  go_simp
  try with_reducible rfl
 try simp only [Act.put, yA, yB, yC]
 refine hTk (i := 2) (d := some 6) (v := ?_) (fun o ho => ?_) hHeld ?_
 rotate_left
 ·simp only [zA, zB, zC, zD] at ho
  subst ho
  refine ⟨by rfl, fun w hSw => ?_⟩
  (try dsimp only at hSw)
  go_simp
  try with_reducible rfl
 try simp only [Act.put, yA, yB, yC]
 refine hTk (i := 3) (d := some 7) (v := ?_) (fun o ho => ?_) hHeld ?_
 rotate_left
 ·simp only [zA, zB, zC, zD] at ho
  subst ho
  refine ⟨by rfl, fun w hSw => ?_⟩
  (try dsimp only at hSw)
  go_simp
  try with_reducible rfl
 try simp only [Act.put, yA, yB, yC]
 refine hTk (i := 4) (d := some 8) (v := ?_) (fun o ho => ?_) hHeld ?_
 rotate_left
 ·simp only [zA, zB, zC, zD] at ho
  subst ho
  refine ⟨by rfl, fun w hSw => ?_⟩
  (try dsimp only at hSw)
  go_simp
  try with_reducible rfl
 try simp only [Act.put, yA, yB, yC]
 refine hTk (i := 5) (d := some 9) (v := ?_) (fun o ho => ?_) hHeld ?_
 rotate_left
 ·simp only [zA, zB, zC, zD] at ho
  subst ho
  refine ⟨by rfl, fun w hSw => ?_⟩
  (try dsimp only at hSw)
  go_simp
  try with_reducible rfl
 try simp only [Act.put, yA, yB, yC]
 refine hTk (i := 6) (d := some 10) (v := ?_) (fun o ho => ?_) hHeld ?_
 rotate_left
 ·simp only [zA, zB, zC, zD] at ho
  subst ho
  refine ⟨by rfl, fun w hSw => ?_⟩
  (try dsimp only at hSw)
  go_simp
  try with_reducible rfl
 try simp only [Act.put, yA, yB, yC]
 refine hTk (i := 7) (d := some 11) (v := ?_) (fun o ho => ?_) hHeld ?_
 rotate_left
 ·simp only [zA, zB, zC, zD] at ho
  subst ho
  refine ⟨by rfl, fun w hSw => ?_⟩
  (try dsimp only at hSw)
  go_simp
  try with_reducible rfl
 try simp only [Act.put, yA, yB, yC]
 refine hTk (i := 8) (d := some 12) (v := ?_) (fun o ho => ?_) hHeld ?_
 rotate_left
 ·simp only [zA, zB, zC, zD] at ho
  subst ho
  refine ⟨by rfl, fun w hSw => ?_⟩
  (try dsimp only at hSw)
  go_simp
  try with_reducible rfl
 try simp only [Act.put, yA, yB, yC]
 refine wpAnyH_ready (rs := [9]) (by kernel_rfl) (by simp) ?_
 refine held_step (i := 9) (by kernel_rfl) (fun o ho K' hK => ?_) ?_
 ·simp only [zA, zB, zC, zD] at ho
  subst ho
  go_simp
  go_at_call 36
  refine (in_any _ _ _ _).mono ?_
  rintro e w' ⟨rfl, rfl⟩
  try go_wp2_with fail
  refine hK.out _ _ ?_ (fun hHeld => ?_)
  ·exact HS.out _ (by repeat (first | exact hxv | exact Ext.refl _ | apply Ext.drew | apply Ext.alloc))
  clear hK K'
  try simp only [yA, yB, yC]
  refine hTk (i := 10) (d := some 14) (v := ?_) (fun o ho => ?_) hHeld ?_
  rotate_left
  ·simp only [zA, zB, zC, zD] at ho
   subst ho
   refine ⟨by rfl, fun w hSw => ?_⟩
   (try dsimp only at hSw)
   go_simp
   try with_reducible rfl
  try simp only [Act.put, yA, yB, yC]
  refine hTk (i := 11) (d := some 15) (v := ?_) (fun o ho => ?_) hHeld ?_
  rotate_left
  ·simp only [zA, zB, zC, zD] at ho
   subst ho
   refine ⟨by rfl, fun w hSw => ?_⟩
   (try dsimp only at hSw)
   go_simp
   try with_reducible rfl
  try simp only [Act.put, yA, yB, yC]
  refine hTk (i := 12) (d := some 16) (v := ?_) (fun o ho => ?_) hHeld ?_
  rotate_left
  ·simp only [zA, zB, zC, zD] at ho
   subst ho
   refine ⟨by rfl, fun w hSw => ?_⟩
   (try dsimp only at hSw)
   go_simp
   try with_reducible rfl
  try simp only [Act.put, yA, yB, yC]
  refine held_skips (is := [13, 14, 15, 16, 17, 18, 19, 20]) (k := 8) (l' := #[true, true, true, true, true, true, true, true, true, true, true, true, true, true, true, true, true, true, true, true, true, false, false, false, false, false, false, false]) (by kernel_rfl) rfl (by assumption) ?_
  refine hTk (i := 21) (d := some 25) (v := ?_) (fun o ho => ?_) hHeld ?_
  rotate_left
  ·simp only [zA, zB, zC, zD] at ho
   subst ho
   refine ⟨by rfl, fun w hSw => ?_⟩
   (try dsimp only at hSw)
   go_simp
   try with_reducible rfl
  try simp only [Act.put, yA, yB, yC]
  refine hTk (i := 22) (d := some 26) (v := ?_) (fun o ho => ?_) hHeld ?_
  rotate_left
  ·simp only [zA, zB, zC, zD] at ho
   subst ho
   refine ⟨by rfl, fun w hSw => ?_⟩
   (try dsimp only at hSw)
   go_simp
   try with_reducible rfl
  try simp only [Act.put, yA, yB, yC]
  refine held_skips (is := [23, 24, 25]) (k := 3) (l' := #[true, true, true, true, true, true, true, true, true, true, true, true, true, true, true, true, true, true, true, true, true, true, true, true, true, true, false, false]) (by kernel_rfl) rfl (by assumption) ?_
  refine hTk (i := 26) (d := some 30) (v := ?_) (fun o ho => ?_) hHeld ?_
  rotate_left
  ·simp only [zA, zB, zC, zD] at ho
   subst ho
   refine ⟨by rfl, fun w hSw => ?_⟩
   (try dsimp only at hSw)
   go_simp
   try with_reducible rfl
  try simp only [Act.put, yA, yB, yC]
  refine wpAnyH_ready (rs := [27]) (by kernel_rfl) (by simp) ?_
  refine held_step (i := 27) (by kernel_rfl) (fun o ho K' hK => ?_) ?_
  ·simp only [zA, zB, zC, zD] at ho
   subst ho
   go_simp
   refine hK.out _ _ ?_ (fun hHeld => ?_)
   ·exact HS.out _ (by repeat (first | exact hxv | exact Ext.refl _ | apply Ext.drew | apply Ext.alloc))
   clear hK K'
   try simp only [yA, yB, yC]
   refine wpAnyH_done (by kernel_rfl) ?_ _
   try simp only [yA, yB, yC]
   go_wp2
   go_ret
   exact ⟨rfl, ((Ext.refl w).alloc _).drew⟩
  exact AllReadyH.nil
 exact AllReadyH.nil
set_option maxRecDepth 100000 in
set_option maxHeartbeats 4000000 in
theorem isBook1_c (ga : Option Addr) (gc : Nat) (r : River) (b n : Nat) (w : World) (n2 : n ≤ 6) (hg : PairsAt w (.slice ga r.grow.length gc) r.grow) (hb : w.cell? ⟨b, 0, none⟩ = some (.int .i64 (n : Int))) (hl : r.grow.length = n) (hv : inB r.vary 0 3 = true) (hc : inB r.closed 0 (2 ^ n - 1) = false) :
  Calls Tryz.prog 81 #[.agg #[.slice ga r.grow.length gc, .int .i64 r.vary, .int .i64 r.closed], .pointer (some ⟨b, 0, none⟩)] w fun e w' => e = .returned (.bool true) ∧ Ext w w' := by
 have HC := Lib.hid (fun w1 (hx : Ext w w1) => contains_isBook11 (.slice ga r.grow.length gc) r.grow w1 (hg.ext hx))
 have hmix : Tryz.prog.follows .mixedOrders = true := by kernel_rfl
 have hx0 : Ext w (w.alloc (.cells #[.slice ga r.grow.length gc, .int .i64 r.vary, .int .i64 r.closed] 62)) := (Ext.refl w).alloc _
 have HS := Lib.hid (fun W (h : Ext (w.alloc (.cells #[.slice ga r.grow.length gc, .int .i64 r.vary, .int .i64 r.closed] 62)) W) => (⟨h.cell (by go_simp), h.cell (by go_simp), h.cell (by go_simp), (hx0.trans h).cell hb⟩ : (fun w' => w'.cell? ⟨w.heap.size, 0, none⟩ = some (.slice ga r.grow.length gc) ∧ w'.cell? ⟨w.heap.size, 1, none⟩ = some (.int .i64 r.vary) ∧ w'.cell? ⟨w.heap.size, 2, none⟩ = some (.int .i64 r.closed) ∧ w'.cell? ⟨b, 0, none⟩ = some (.int .i64 (n : Int))) W))
 have t1 : ((r.grow.length : Int) != (n : Int)) = false := by rw [bne_eq_false_iff_eq]; omega
 obtain ⟨q1, q2⟩ := two_pow_years n n2
 clear hl
 clear hg hb
 go_enter Tryz.func81, Tryz.ntmps81
 go_upto_region 1 with fail
 refine wp_region_held_drew (S := (fun w' => w'.cell? ⟨w.heap.size, 0, none⟩ = some (.slice ga r.grow.length gc) ∧ w'.cell? ⟨w.heap.size, 1, none⟩ = some (.int .i64 r.vary) ∧ w'.cell? ⟨w.heap.size, 2, none⟩ = some (.int .i64 r.closed) ∧ w'.cell? ⟨b, 0, none⟩ = some (.int .i64 (n : Int)))) (by kernel_rfl) ?_ (fun hHeld => ?_)
 ·exact HS.out _ (by repeat (first | exact hxv | exact Ext.refl _ | apply Ext.drew | apply Ext.alloc))
 refine hTk (i := 0) (d := some 4) (v := ?_) (fun o ho => ?_) hHeld ?_
 rotate_left
 ·simp only [zA, zB, zD] at ho
  subst ho
  refine ⟨by rfl, fun w hSw => ?_⟩
  (try dsimp only at hSw)
  go_simp
  try with_reducible rfl
 try simp only [Act.put, yA, yB, yC]
 refine hTk (i := 1) (d := some 5) (v := ?_) (fun o ho => ?_) hHeld ?_
 rotate_left
 ·simp only [zA, zB, zC, zD] at ho
  subst ho
  refine ⟨by rfl, fun w hSw => ?_⟩
  (try dsimp only at hSw)
  go_simp
  try with_reducible rfl
 try simp only [Act.put, yA, yB, yC]
 refine hTk (i := 2) (d := some 6) (v := ?_) (fun o ho => ?_) hHeld ?_
 rotate_left
 ·simp only [zA, zB, zC, zD] at ho
  subst ho
  refine ⟨by rfl, fun w hSw => ?_⟩
  (try dsimp only at hSw)
  go_simp
  try with_reducible rfl
 try simp only [Act.put, yA, yB, yC]
 refine hTk (i := 3) (d := some 7) (v := ?_) (fun o ho => ?_) hHeld ?_
 rotate_left
 ·simp only [zA, zB, zC, zD] at ho
  subst ho
  refine ⟨by rfl, fun w hSw => ?_⟩
  (try dsimp only at hSw)
  go_simp
  try with_reducible rfl
 try simp only [Act.put, yA, yB, yC]
 refine hTk (i := 4) (d := some 8) (v := ?_) (fun o ho => ?_) hHeld ?_
 rotate_left
 ·simp only [zA, zB, zC, zD] at ho
  subst ho
  refine ⟨by rfl, fun w hSw => ?_⟩
  (try dsimp only at hSw)
  go_simp
  try with_reducible rfl
 try simp only [Act.put, yA, yB, yC]
 refine hTk (i := 5) (d := some 9) (v := ?_) (fun o ho => ?_) hHeld ?_
 rotate_left
 ·simp only [zA, zB, zC, zD] at ho
  subst ho
  refine ⟨by rfl, fun w hSw => ?_⟩
  (try dsimp only at hSw)
  go_simp
  try with_reducible rfl
 try simp only [Act.put, yA, yB, yC]
 refine hTk (i := 6) (d := some 10) (v := ?_) (fun o ho => ?_) hHeld ?_
 rotate_left
 ·simp only [zA, zB, zC, zD] at ho
  subst ho
  refine ⟨by rfl, fun w hSw => ?_⟩
  (try dsimp only at hSw)
  go_simp
  try with_reducible rfl
 try simp only [Act.put, yA, yB, yC]
 refine hTk (i := 7) (d := some 11) (v := ?_) (fun o ho => ?_) hHeld ?_
 rotate_left
 ·simp only [zA, zB, zC, zD] at ho
  subst ho
  refine ⟨by rfl, fun w hSw => ?_⟩
  (try dsimp only at hSw)
  go_simp
  try with_reducible rfl
 try simp only [Act.put, yA, yB, yC]
 refine hTk (i := 8) (d := some 12) (v := ?_) (fun o ho => ?_) hHeld ?_
 rotate_left
 ·simp only [zA, zB, zC, zD] at ho
  subst ho
  refine ⟨by rfl, fun w hSw => ?_⟩
  (try dsimp only at hSw)
  go_simp
  try with_reducible rfl
 try simp only [Act.put, yA, yB, yC]
 refine wpAnyH_ready (rs := [9]) (by kernel_rfl) (by simp) ?_
 refine held_step (i := 9) (by kernel_rfl) (fun o ho K' hK => ?_) ?_
 ·simp only [zA, zB, zC, zD] at ho
  subst ho
  go_simp
  go_at_call 36
  refine (in_any _ _ _ _).mono ?_
  rintro e w' ⟨rfl, rfl⟩
  try go_wp2_with fail
  refine hK.out _ _ ?_ (fun hHeld => ?_)
  ·exact HS.out _ (by repeat (first | exact hxv | exact Ext.refl _ | apply Ext.drew | apply Ext.alloc))
  clear hK K'
  try simp only [yA, yB, yC]
  refine hTk (i := 10) (d := some 14) (v := ?_) (fun o ho => ?_) hHeld ?_
  rotate_left
  ·simp only [zA, zB, zC, zD] at ho
   subst ho
   refine ⟨by rfl, fun w hSw => ?_⟩
   (try dsimp only at hSw)
   go_simp
   try with_reducible rfl
  try simp only [Act.put, yA, yB, yC]
  refine hTk (i := 11) (d := some 15) (v := ?_) (fun o ho => ?_) hHeld ?_
  rotate_left
  ·simp only [zA, zB, zC, zD] at ho
   subst ho
   refine ⟨by rfl, fun w hSw => ?_⟩
   (try dsimp only at hSw)
   go_simp
   try with_reducible rfl
  try simp only [Act.put, yA, yB, yC]
  refine hTk (i := 12) (d := some 16) (v := ?_) (fun o ho => ?_) hHeld ?_
  rotate_left
  ·simp only [zA, zB, zC, zD] at ho
   subst ho
   refine ⟨by rfl, fun w hSw => ?_⟩
   (try dsimp only at hSw)
   go_simp
   try with_reducible rfl
  try simp only [Act.put, yA, yB, yC]
  refine hTk (i := 13) (d := some 17) (v := ?_) (fun o ho => ?_) hHeld ?_
  rotate_left
  ·simp only [zA, zB, zC, zD] at ho
   subst ho
   refine ⟨by rfl, fun w hSw => ?_⟩
   (try dsimp only at hSw)
   go_simp
   try with_reducible rfl
  try simp only [Act.put, yA, yB, yC]
  refine hTk (i := 14) (d := some 18) (v := ?_) (fun o ho => ?_) hHeld ?_
  rotate_left
  ·simp only [zA, zB, zC, zD] at ho
   subst ho
   refine ⟨by rfl, fun w hSw => ?_⟩
   (try dsimp only at hSw)
   go_simp
   try with_reducible rfl
  try simp only [Act.put, yA, yB, yC]
  refine hTk (i := 15) (d := some 19) (v := ?_) (fun o ho => ?_) hHeld ?_
  rotate_left
  ·simp only [zA, zB, zC, zD] at ho
   subst ho
   refine ⟨by rfl, fun w hSw => ?_⟩
   (try dsimp only at hSw)
   go_simp
   try with_reducible rfl
  try simp only [Act.put, yA, yB, yC]
  refine hTk (i := 16) (d := some 20) (v := ?_) (fun o ho => ?_) hHeld ?_
  rotate_left
  ·simp only [zA, zB, zC, zD] at ho
   subst ho
   refine ⟨by rfl, fun w hSw => ?_⟩
   (try dsimp only at hSw)
   go_simp
   try with_reducible rfl
  try simp only [Act.put, yA, yB, yC]
  refine hTk (i := 17) (d := some 21) (v := ?_) (fun o ho => ?_) hHeld ?_
  rotate_left
  ·simp only [zA, zB, zC, zD] at ho
   subst ho
   refine ⟨by rfl, fun w hSw => ?_⟩
   (try dsimp only at hSw)
   go_simp
   try with_reducible rfl
  try simp only [Act.put, yA, yB, yC]
  refine hTk (i := 18) (d := some 22) (v := ?_) (fun o ho => ?_) hHeld ?_
  rotate_left
  ·simp only [zA, zB, zC, zD] at ho
   subst ho
   refine ⟨by rfl, fun w hSw => ?_⟩
   (try dsimp only at hSw)
   go_simp
   try with_reducible rfl
  try simp only [Act.put, yA, yB, yC]
  refine wpAnyH_ready (rs := [19]) (by kernel_rfl) (by simp) ?_
  refine held_step (i := 19) (by kernel_rfl) (fun o ho K' hK => ?_) ?_
  ·simp only [zA, zB, zC, zD] at ho
   subst ho
   go_simp
   go_at_call 36
   refine (in_any _ _ _ _).mono ?_
   rintro e w' ⟨rfl, rfl⟩
   try go_wp2_with fail
   refine hK.out _ _ ?_ (fun hHeld => ?_)
   ·exact HS.out _ (by repeat (first | exact hxv | exact Ext.refl _ | apply Ext.drew | apply Ext.alloc))
   clear hK K'
   try simp only [yA, yB, yC]
   refine hTk (i := 20) (d := some 24) (v := ?_) (fun o ho => ?_) hHeld ?_
   rotate_left
   ·simp only [zA, zB, zC, zD] at ho
    subst ho
    refine ⟨by rfl, fun w hSw => ?_⟩
    (try dsimp only at hSw)
    go_simp
    try with_reducible rfl
   try simp only [Act.put, yA, yB, yC]
   refine hTk (i := 21) (d := some 25) (v := ?_) (fun o ho => ?_) hHeld ?_
   rotate_left
   ·simp only [zA, zB, zC, zD] at ho
    subst ho
    refine ⟨by rfl, fun w hSw => ?_⟩
    (try dsimp only at hSw)
    go_simp
    try with_reducible rfl
   try simp only [Act.put, yA, yB, yC]
   refine hTk (i := 22) (d := some 26) (v := ?_) (fun o ho => ?_) hHeld ?_
   rotate_left
   ·simp only [zA, zB, zC, zD] at ho
    subst ho
    refine ⟨by rfl, fun w hSw => ?_⟩
    (try dsimp only at hSw)
    go_simp
    try with_reducible rfl
   try simp only [Act.put, yA, yB, yC]
   refine held_skips (is := [23, 24, 25]) (k := 3) (l' := #[true, true, true, true, true, true, true, true, true, true, true, true, true, true, true, true, true, true, true, true, true, true, true, true, true, true, false, false]) (by kernel_rfl) rfl (by assumption) ?_
   refine hTk (i := 26) (d := some 30) (v := ?_) (fun o ho => ?_) hHeld ?_
   rotate_left
   ·simp only [zA, zB, zC, zD] at ho
    subst ho
    refine ⟨by rfl, fun w hSw => ?_⟩
    (try dsimp only at hSw)
    go_simp
    try with_reducible rfl
   try simp only [Act.put, yA, yB, yC]
   refine wpAnyH_ready (rs := [27]) (by kernel_rfl) (by simp) ?_
   refine held_step (i := 27) (by kernel_rfl) (fun o ho K' hK => ?_) ?_
   ·simp only [zA, zB, zC, zD] at ho
    subst ho
    go_simp
    refine hK.out _ _ ?_ (fun hHeld => ?_)
    ·exact HS.out _ (by repeat (first | exact hxv | exact Ext.refl _ | apply Ext.drew | apply Ext.alloc))
    clear hK K'
    try simp only [yA, yB, yC]
    refine wpAnyH_done (by kernel_rfl) ?_ _
    try simp only [yA, yB, yC]
    go_wp2
    go_ret
    exact ⟨rfl, ((Ext.refl w).alloc _).drew⟩
   exact AllReadyH.nil
  exact AllReadyH.nil
 exact AllReadyH.nil
set_option maxRecDepth 100000 in
set_option maxHeartbeats 4000000 in
theorem isBook1_d (ga : Option Addr) (gc : Nat) (r : River) (b n : Nat) (w : World) (n2 : n ≤ 6) (hg : PairsAt w (.slice ga r.grow.length gc) r.grow) (hb : w.cell? ⟨b, 0, none⟩ = some (.int .i64 (n : Int))) (hl : r.grow.length = n) (hv : inB r.vary 0 3 = true) (hc : inB r.closed 0 (2 ^ n - 1) = true) :
  Calls Tryz.prog 81 #[.agg #[.slice ga r.grow.length gc, .int .i64 r.vary, .int .i64 r.closed], .pointer (some ⟨b, 0, none⟩)] w fun e w' => e = .returned (.bool (r.grow.any badSpan)) ∧ Ext w w' := by
 have HC := Lib.hid (fun w1 (hx : Ext w w1) => contains_isBook11 (.slice ga r.grow.length gc) r.grow w1 (hg.ext hx))
 have hmix : Tryz.prog.follows .mixedOrders = true := by kernel_rfl
 have hx0 : Ext w (w.alloc (.cells #[.slice ga r.grow.length gc, .int .i64 r.vary, .int .i64 r.closed] 62)) := (Ext.refl w).alloc _
 have HS := Lib.hid (fun W (h : Ext (w.alloc (.cells #[.slice ga r.grow.length gc, .int .i64 r.vary, .int .i64 r.closed] 62)) W) => (⟨h.cell (by go_simp), h.cell (by go_simp), h.cell (by go_simp), (hx0.trans h).cell hb⟩ : (fun w' => w'.cell? ⟨w.heap.size, 0, none⟩ = some (.slice ga r.grow.length gc) ∧ w'.cell? ⟨w.heap.size, 1, none⟩ = some (.int .i64 r.vary) ∧ w'.cell? ⟨w.heap.size, 2, none⟩ = some (.int .i64 r.closed) ∧ w'.cell? ⟨b, 0, none⟩ = some (.int .i64 (n : Int))) W))
 have t1 : ((r.grow.length : Int) != (n : Int)) = false := by rw [bne_eq_false_iff_eq]; omega
 obtain ⟨q1, q2⟩ := two_pow_years n n2
 clear hl
 clear hg hb
 go_enter Tryz.func81, Tryz.ntmps81
 go_upto_region 1 with fail
 refine wp_region_held_drew (S := (fun w' => w'.cell? ⟨w.heap.size, 0, none⟩ = some (.slice ga r.grow.length gc) ∧ w'.cell? ⟨w.heap.size, 1, none⟩ = some (.int .i64 r.vary) ∧ w'.cell? ⟨w.heap.size, 2, none⟩ = some (.int .i64 r.closed) ∧ w'.cell? ⟨b, 0, none⟩ = some (.int .i64 (n : Int)))) (by kernel_rfl) ?_ (fun hHeld => ?_)
 ·exact HS.out _ (by repeat (first | exact hxv | exact Ext.refl _ | apply Ext.drew | apply Ext.alloc))
 refine hTk (i := 0) (d := some 4) (v := ?_) (fun o ho => ?_) hHeld ?_
 rotate_left
 ·simp only [zA, zB, zD] at ho
  subst ho
  refine ⟨by rfl, fun w hSw => ?_⟩
  (try dsimp only at hSw)
  go_simp
  try with_reducible rfl
 try simp only [Act.put, yA, yB, yC]
 refine hTk (i := 1) (d := some 5) (v := ?_) (fun o ho => ?_) hHeld ?_
 rotate_left
 ·simp only [zA, zB, zC, zD] at ho
  subst ho
  refine ⟨by rfl, fun w hSw => ?_⟩
  (try dsimp only at hSw)
  go_simp
  try with_reducible rfl
 try simp only [Act.put, yA, yB, yC]
 refine hTk (i := 2) (d := some 6) (v := ?_) (fun o ho => ?_) hHeld ?_
 rotate_left
 ·simp only [zA, zB, zC, zD] at ho
  subst ho
  refine ⟨by rfl, fun w hSw => ?_⟩
  (try dsimp only at hSw)
  go_simp
  try with_reducible rfl
 try simp only [Act.put, yA, yB, yC]
 refine hTk (i := 3) (d := some 7) (v := ?_) (fun o ho => ?_) hHeld ?_
 rotate_left
 ·simp only [zA, zB, zC, zD] at ho
  subst ho
  refine ⟨by rfl, fun w hSw => ?_⟩
  (try dsimp only at hSw)
  go_simp
  try with_reducible rfl
 try simp only [Act.put, yA, yB, yC]
 refine hTk (i := 4) (d := some 8) (v := ?_) (fun o ho => ?_) hHeld ?_
 rotate_left
 ·simp only [zA, zB, zC, zD] at ho
  subst ho
  refine ⟨by rfl, fun w hSw => ?_⟩
  (try dsimp only at hSw)
  go_simp
  try with_reducible rfl
 try simp only [Act.put, yA, yB, yC]
 refine hTk (i := 5) (d := some 9) (v := ?_) (fun o ho => ?_) hHeld ?_
 rotate_left
 ·simp only [zA, zB, zC, zD] at ho
  subst ho
  refine ⟨by rfl, fun w hSw => ?_⟩
  (try dsimp only at hSw)
  go_simp
  try with_reducible rfl
 try simp only [Act.put, yA, yB, yC]
 refine hTk (i := 6) (d := some 10) (v := ?_) (fun o ho => ?_) hHeld ?_
 rotate_left
 ·simp only [zA, zB, zC, zD] at ho
  subst ho
  refine ⟨by rfl, fun w hSw => ?_⟩
  (try dsimp only at hSw)
  go_simp
  try with_reducible rfl
 try simp only [Act.put, yA, yB, yC]
 refine hTk (i := 7) (d := some 11) (v := ?_) (fun o ho => ?_) hHeld ?_
 rotate_left
 ·simp only [zA, zB, zC, zD] at ho
  subst ho
  refine ⟨by rfl, fun w hSw => ?_⟩
  (try dsimp only at hSw)
  go_simp
  try with_reducible rfl
 try simp only [Act.put, yA, yB, yC]
 refine hTk (i := 8) (d := some 12) (v := ?_) (fun o ho => ?_) hHeld ?_
 rotate_left
 ·simp only [zA, zB, zC, zD] at ho
  subst ho
  refine ⟨by rfl, fun w hSw => ?_⟩
  (try dsimp only at hSw)
  go_simp
  try with_reducible rfl
 try simp only [Act.put, yA, yB, yC]
 refine wpAnyH_ready (rs := [9]) (by kernel_rfl) (by simp) ?_
 refine held_step (i := 9) (by kernel_rfl) (fun o ho K' hK => ?_) ?_
 ·simp only [zA, zB, zC, zD] at ho
  subst ho
  go_simp
  go_at_call 36
  refine (in_any _ _ _ _).mono ?_
  rintro e w' ⟨rfl, rfl⟩
  try go_wp2_with fail
  refine hK.out _ _ ?_ (fun hHeld => ?_)
  ·exact HS.out _ (by repeat (first | exact hxv | exact Ext.refl _ | apply Ext.drew | apply Ext.alloc))
  clear hK K'
  try simp only [yA, yB, yC]
  refine hTk (i := 10) (d := some 14) (v := ?_) (fun o ho => ?_) hHeld ?_
  rotate_left
  ·simp only [zA, zB, zC, zD] at ho
   subst ho
   refine ⟨by rfl, fun w hSw => ?_⟩
   (try dsimp only at hSw)
   go_simp
   try with_reducible rfl
  try simp only [Act.put, yA, yB, yC]
  refine hTk (i := 11) (d := some 15) (v := ?_) (fun o ho => ?_) hHeld ?_
  rotate_left
  ·simp only [zA, zB, zC, zD] at ho
   subst ho
   refine ⟨by rfl, fun w hSw => ?_⟩
   (try dsimp only at hSw)
   go_simp
   try with_reducible rfl
  try simp only [Act.put, yA, yB, yC]
  refine hTk (i := 12) (d := some 16) (v := ?_) (fun o ho => ?_) hHeld ?_
  rotate_left
  ·simp only [zA, zB, zC, zD] at ho
   subst ho
   refine ⟨by rfl, fun w hSw => ?_⟩
   (try dsimp only at hSw)
   go_simp
   try with_reducible rfl
  try simp only [Act.put, yA, yB, yC]
  refine hTk (i := 13) (d := some 17) (v := ?_) (fun o ho => ?_) hHeld ?_
  rotate_left
  ·simp only [zA, zB, zC, zD] at ho
   subst ho
   refine ⟨by rfl, fun w hSw => ?_⟩
   (try dsimp only at hSw)
   go_simp
   try with_reducible rfl
  try simp only [Act.put, yA, yB, yC]
  refine hTk (i := 14) (d := some 18) (v := ?_) (fun o ho => ?_) hHeld ?_
  rotate_left
  ·simp only [zA, zB, zC, zD] at ho
   subst ho
   refine ⟨by rfl, fun w hSw => ?_⟩
   (try dsimp only at hSw)
   go_simp
   try with_reducible rfl
  try simp only [Act.put, yA, yB, yC]
  refine hTk (i := 15) (d := some 19) (v := ?_) (fun o ho => ?_) hHeld ?_
  rotate_left
  ·simp only [zA, zB, zC, zD] at ho
   subst ho
   refine ⟨by rfl, fun w hSw => ?_⟩
   (try dsimp only at hSw)
   go_simp
   try with_reducible rfl
  try simp only [Act.put, yA, yB, yC]
  refine hTk (i := 16) (d := some 20) (v := ?_) (fun o ho => ?_) hHeld ?_
  rotate_left
  ·simp only [zA, zB, zC, zD] at ho
   subst ho
   refine ⟨by rfl, fun w hSw => ?_⟩
   (try dsimp only at hSw)
   go_simp
   try with_reducible rfl
  try simp only [Act.put, yA, yB, yC]
  refine hTk (i := 17) (d := some 21) (v := ?_) (fun o ho => ?_) hHeld ?_
  rotate_left
  ·simp only [zA, zB, zC, zD] at ho
   subst ho
   refine ⟨by rfl, fun w hSw => ?_⟩
   (try dsimp only at hSw)
   go_simp
   try with_reducible rfl
  try simp only [Act.put, yA, yB, yC]
  refine hTk (i := 18) (d := some 22) (v := ?_) (fun o ho => ?_) hHeld ?_
  rotate_left
  ·simp only [zA, zB, zC, zD] at ho
   subst ho
   refine ⟨by rfl, fun w hSw => ?_⟩
   (try dsimp only at hSw)
   go_simp
   try with_reducible rfl
  try simp only [Act.put, yA, yB, yC]
  refine wpAnyH_ready (rs := [19]) (by kernel_rfl) (by simp) ?_
  refine held_step (i := 19) (by kernel_rfl) (fun o ho K' hK => ?_) ?_
  ·simp only [zA, zB, zC, zD] at ho
   subst ho
   go_simp
   go_at_call 36
   refine (in_any _ _ _ _).mono ?_
   rintro e w' ⟨rfl, rfl⟩
   try go_wp2_with fail
   refine hK.out _ _ ?_ (fun hHeld => ?_)
   ·exact HS.out _ (by repeat (first | exact hxv | exact Ext.refl _ | apply Ext.drew | apply Ext.alloc))
   clear hK K'
   try simp only [yA, yB, yC]
   refine hTk (i := 20) (d := some 24) (v := ?_) (fun o ho => ?_) hHeld ?_
   rotate_left
   ·simp only [zA, zB, zC, zD] at ho
    subst ho
    refine ⟨by rfl, fun w hSw => ?_⟩
    (try dsimp only at hSw)
    go_simp
    try with_reducible rfl
   try simp only [Act.put, yA, yB, yC]
   refine hTk (i := 21) (d := some 25) (v := ?_) (fun o ho => ?_) hHeld ?_
   rotate_left
   ·simp only [zA, zB, zC, zD] at ho
    subst ho
    refine ⟨by rfl, fun w hSw => ?_⟩
    (try dsimp only at hSw)
    go_simp
    try with_reducible rfl
   try simp only [Act.put, yA, yB, yC]
   refine hTk (i := 22) (d := some 26) (v := ?_) (fun o ho => ?_) hHeld ?_
   rotate_left
   ·simp only [zA, zB, zC, zD] at ho
    subst ho
    refine ⟨by rfl, fun w hSw => ?_⟩
    (try dsimp only at hSw)
    go_simp
    try with_reducible rfl
   try simp only [Act.put, yA, yB, yC]
   refine hTk (i := 23) (d := some 27) (v := ?_) (fun o ho => ?_) hHeld ?_
   rotate_left
   ·simp only [zA, zB, zC, zD] at ho
    subst ho
    refine ⟨by rfl, fun w hSw => ?_⟩
    (try dsimp only at hSw)
    go_simp
    try with_reducible rfl
   try simp only [Act.put, yA, yB, yC]
   refine hTk (i := 24) (d := some 28) (v := ?_) (fun o ho => ?_) hHeld ?_
   rotate_left
   ·simp only [zA, zB, zC, zD] at ho
    subst ho
    refine ⟨by rfl, fun w hSw => ?_⟩
    (try dsimp only at hSw)
    go_simp
    try with_reducible rfl
   try simp only [Act.put, yA, yB, yC]
   refine wpAnyH_ready (rs := [25]) (by kernel_rfl) (by simp) ?_
   refine held_step (i := 25) (by kernel_rfl) (fun o ho K' hK => ?_) ?_
   ·simp only [zA, zB, zC, zD] at ho
    subst ho
    go_simp
    go_at_call 82
    refine (HC.out _ ((Ext.refl w).alloc _).drew).mono ?_
    rintro e w1 ⟨rfl, hx1⟩
    have hxv := ((Ext.refl (w.alloc (.cells #[.slice ga r.grow.length gc, .int .i64 r.vary, .int .i64 r.closed] 62))).drew).trans hx1
    have hxw := hx0.trans hxv
    try go_wp2_with fail
    refine hK.out _ _ ?_ (fun hHeld => ?_)
    ·exact HS.out _ (by repeat (first | exact hxv | exact Ext.refl _ | apply Ext.drew | apply Ext.alloc))
    clear hK K'
    try simp only [yA, yB, yC]
    refine hTk (i := 26) (d := some 30) (v := ?_) (fun o ho => ?_) hHeld ?_
    rotate_left
    ·simp only [zA, zB, zC, zD] at ho
     subst ho
     refine ⟨by rfl, fun w hSw => ?_⟩
     (try dsimp only at hSw)
     go_simp
     try with_reducible rfl
    try simp only [Act.put, yA, yB, yC]
    refine wpAnyH_ready (rs := [27]) (by kernel_rfl) (by simp) ?_
    refine held_step (i := 27) (by kernel_rfl) (fun o ho K' hK => ?_) ?_
    ·simp only [zA, zB, zC, zD] at ho
     subst ho
     go_simp
     refine hK.out _ _ ?_ (fun hHeld => ?_)
     ·exact HS.out _ (by repeat (first | exact hxv | exact Ext.refl _ | apply Ext.drew | apply Ext.alloc))
     clear hK K'
     try simp only [yA, yB, yC]
     refine wpAnyH_done (by kernel_rfl) ?_ _
     try simp only [yA, yB, yC]
     go_wp2
     go_ret
     exact ⟨rfl, hxw⟩
    exact AllReadyH.nil
   exact AllReadyH.nil
  exact AllReadyH.nil
 exact AllReadyH.nil
theorem isBook1_any (gv : Value) (r : River) (b n : Nat) (w : World) (n2 : n ≤ 6) (hg : PairsAt w gv r.grow) (hb : w.cell? ⟨b, 0, none⟩ = some (.int .i64 (n : Int))) :
  Calls Tryz.prog 81 #[.agg #[gv, .int .i64 r.vary, .int .i64 r.closed], .pointer (some ⟨b, 0, none⟩)] w fun e w' => e = .returned (.bool (badRiver n r)) ∧ Ext w w' := by
 obtain ⟨ga, gc, rfl, _⟩ := RowAt.open hg
 by_cases hl : r.grow.length = n
 ·by_cases hv : inB r.vary 0 3 = true
  ·by_cases hc : inB r.closed 0 (2 ^ n - 1) = true
   ·rw [show badRiver n r = r.grow.any badSpan by simp [badRiver, hl, hv, hc]]
    exact isBook1_d ga gc r b n w n2 hg hb hl hv hc
   ·rw [show badRiver n r = true by simp [badRiver, hc]]
    exact isBook1_c ga gc r b n w n2 hg hb hl hv (by simpa using hc)
  ·rw [show badRiver n r = true by simp [badRiver, hv]]
   exact isBook1_b ga gc r b n w hg hb hl (by simpa using hv)
 ·rw [show badRiver n r = true by simp [badRiver]; left; left; left; omega]
  exact isBook1_a ga gc r b n w hg hb hl
end Go.Proofs.YtiodjapdiflphaaGreatDoor
/- Walks: isBook, Check, isShell, isSack. -/
namespace Go.Proofs.YtiodjapdiflphaaGreatDoor
open Go.RowKit
theorem enters_isBook1 : ∀ args w, (callFunc 81 args).run Tryz.prog w = .ok (.enter 81 args) w := enters_of Tryz.func81 (by kernel_rfl) rfl
theorem contains_isBook1 (rv : Value) (rs : List River) (b n : Nat) (w : World) (n2 : n ≤ 6) (hr : RiversAt w rv rs) (hb : w.cell? ⟨b, 0, none⟩ = some (.int .i64 (n : Int))) :
  Calls Tryz.prog 80 #[rv, .func (.func 81) #[] #[.pointer (some ⟨b, 0, none⟩)]] w fun e w' => e = .returned (.bool (rs.any (badRiver n))) ∧ Ext w w' := by
 obtain ⟨xs, hx, hro, hg⟩ := hr
 rw [← hx, List.any_map]
 exact containsFuncR (f := riverC) (fun x => x.1) (fun x => .int .i64 x.2.vary) (fun x => .int .i64 x.2.closed) (fun _ => rfl) rv _ _ (badRiver n ∘ Prod.snd) xs w hro
  (fun x hx w1 h1 => isBook1_any x.1 x.2 b n w1 n2 ((hg x hx).ext h1) (h1.cell hb)) enters_isBook1
theorem shl_years (y : Int) (h1 : 1 ≤ y) (h2 : y ≤ 6) : ∃ n : Nat, y = n ∧ 1 ≤ n ∧ n ≤ 6 := ⟨y.toNat, by omega, by omega, by omega⟩
theorem isBook_any (v : Value) (b : Book) (w : World) (hb : BookAt w v b) :
  Calls Tryz.prog 46 #[v] w fun e w' => e = .returned (.bool (isBookB b)) ∧ Ext w w' := by
 obtain ⟨rv, rfl, hr⟩ := hb
 have hlen : ∃ a c, rv = .slice a b.rivers.length c := by
  obtain ⟨xs, hx, hro, _⟩ := hr
  obtain ⟨a, c, h, _⟩ := RowAt.open hro
  exact ⟨a, c, by rw [h, ← hx]; simp⟩
 by_cases hy : inB b.years 1 6 = true
 ·obtain ⟨y1, y2⟩ := inB_iff.1 hy
  obtain ⟨n, hn, n1, n2⟩ := shl_years b.years y1 y2
  have HC := Lib.hid (fun k w1 (hx : Ext w w1) hc => contains_isBook1 rv b.rivers k n w1 n2 (hr.ext hx) hc)
  obtain ⟨a, c, rfl⟩ := hlen
  have hN := Lib.hid hn
  clear hr hn
  by_cases hl : inB b.rivers.length 1 3 = true
  ·have hfin : isBookB b = !b.rivers.any (badRiver n) := by rw [← hN.out]; simp [isBookB, hy, hl]
   rw [hfin]
   clear hfin
   go_enter Tryz.func46, Tryz.ntmps46
   go_wp2_with (first | (go_at_call 36; refine (in_any _ _ _ _).mono ?_; rintro e w' ⟨rfl, rfl⟩) | (go_at_call 80; refine (HC.out _ _ ((Ext.refl w).alloc _) (by rw [← hN.out]; go_simp)).mono ?_; rintro e w1 ⟨rfl, hx1⟩))
   all_goals go_ret
   exact ⟨rfl, Ext.trans ((Ext.refl w).alloc _) hx1⟩
  ·have hl' : inB b.rivers.length 1 3 = false := by simpa using hl
   have hbad : isBookB b = false := by simp [isBookB, hl']
   rw [hbad]
   clear hl hbad
   go_enter Tryz.func46, Tryz.ntmps46
   go_wp2_with (first | (go_at_call 36; refine (in_any _ _ _ _).mono ?_; rintro e w' ⟨rfl, rfl⟩))
   all_goals go_ret
   all_goals exact ⟨rfl, (Ext.refl w).alloc _⟩
 ·have hy' : inB b.years 1 6 = false := by simpa using hy
  have hbad : isBookB b = false := by simp [isBookB, hy']
  rw [hbad]
  obtain ⟨a, c, rfl⟩ := hlen
  clear hy hbad hr
  go_enter Tryz.func46, Tryz.ntmps46
  go_wp2_with (first | (go_at_call 36; refine (in_any _ _ _ _).mono ?_; rintro e w' ⟨rfl, rfl⟩))
  all_goals go_ret
  all_goals exact ⟨rfl, (Ext.refl w).alloc _⟩
/-! ### Shells, sacks -/
theorem isShell1_any (n : Int) (w : World) :
  Calls Tryz.prog 99 #[.int .i64 n] w fun e w' => e = .returned (.bool (!inB n 0 60)) ∧ w = w' := by
 go_enter Tryz.func99, Tryz.ntmps99
 go_wp2_with (go_at_call 36; refine (in_any _ _ _ _).mono ?_; rintro e w' ⟨rfl, rfl⟩)
 go_ret
 exact ⟨rfl, rfl⟩
theorem enters_isShell1 : ∀ args w, (callFunc 99 args).run Tryz.prog w = .ok (.enter 99 args) w := enters_of Tryz.func99 (by kernel_rfl) rfl
theorem contains_isShell1 (v : Value) (l : List Int) (w : World) (hv : IntsAt w v l) :
  Calls Tryz.prog 98 #[v, .func (.func 99) #[] #[]] w fun e w' => e = .returned (.bool (l.any fun n => !inB n 0 60)) ∧ Ext w w' :=
 containsFuncI v _ _ _ l w hv (fun x _ w1 _ => (isShell1_any x w1).mono (by rintro e w' ⟨rfl, rfl⟩; exact ⟨rfl, Ext.refl _⟩)) enters_isShell1
theorem isShell_any (v : Value) (s : Shell) (w : World) (hs : ShellAt w v s) :
  Calls Tryz.prog 55 #[v] w fun e w' => e = .returned (.bool (isShellB s)) ∧ Ext w w' := by
 obtain ⟨rv, rfl, hr⟩ := hs
 have HC := Lib.hid (fun w1 (hx : Ext w w1) => contains_isShell1 rv s.rings w1 (hr.ext hx))
 obtain ⟨a, c, rfl, _⟩ := hr.open
 clear hr
 by_cases h1 : inB s.rings.length 1 5 = true
 ·by_cases h2 : inB s.off 0 3 = true
  ·go_enter Tryz.func55, Tryz.ntmps55
   go_wp2_with (first | (go_at_call 36; refine (in_any _ _ _ _).mono ?_; rintro e w' ⟨rfl, rfl⟩) | (go_at_call 98; refine (HC.out _ ((Ext.refl w).alloc _)).mono ?_; rintro e w1 ⟨rfl, hx1⟩))
   all_goals go_ret
   all_goals exact ⟨by simp [isShellB, *], Ext.trans ((Ext.refl w).alloc _) ‹_›⟩
  ·have h2' : inB s.off 0 3 = false := by simpa using h2
   have hbad : isShellB s = false := by simp [isShellB, h2']
   rw [hbad]
   clear h2 hbad
   go_enter Tryz.func55, Tryz.ntmps55
   go_wp2_with (first | (go_at_call 36; refine (in_any _ _ _ _).mono ?_; rintro e w' ⟨rfl, rfl⟩))
   all_goals go_ret
   all_goals exact ⟨rfl, (Ext.refl w).alloc _⟩
 ·have h1' : inB s.rings.length 1 5 = false := by simpa using h1
  have hbad : isShellB s = false := by simp [isShellB, h1']
  rw [hbad]
  clear h1 hbad
  go_enter Tryz.func55, Tryz.ntmps55
  go_wp2_with (first | (go_at_call 36; refine (in_any _ _ _ _).mono ?_; rintro e w' ⟨rfl, rfl⟩))
  all_goals go_ret
  all_goals exact ⟨rfl, (Ext.refl w).alloc _⟩
theorem isSack1_any (v : Value) (s : Shell) (w : World) (hs : ShellAt w v s) :
  Calls Tryz.prog 85 #[v] w fun e w' => e = .returned (.bool (!isShellB s)) ∧ Ext w w' := by
 have HI := Lib.hid (fun w1 (hx : Ext w w1) => isShell_any v s w1 (hs.ext hx))
 obtain ⟨rv, rfl, hr⟩ := hs
 obtain ⟨a, c, rfl, _⟩ := hr.open
 clear hr
 go_enter Tryz.func85, Tryz.ntmps85
 go_wp2_with (go_at_call 55; refine (HI.out _ ((Ext.refl w).alloc _)).mono ?_; rintro e w1 ⟨rfl, hx1⟩)
 go_ret
 exact ⟨rfl, ((Ext.refl w).alloc _).trans hx1⟩
theorem enters_isSack1 : ∀ args w, (callFunc 85 args).run Tryz.prog w = .ok (.enter 85 args) w := enters_of Tryz.func85 (by kernel_rfl) rfl
theorem contains_isSack1 (v : Value) (ss : List Shell) (w : World) (hv : ShellsAt w v ss) :
  Calls Tryz.prog 84 #[v, .func (.func 85) #[] #[]] w fun e w' => e = .returned (.bool (ss.any fun s => !isShellB s)) ∧ Ext w w' := by
 obtain ⟨xs, hx, hro, hg⟩ := hv
 rw [← hx, List.any_map]
 exact containsFuncX (f := shellC) (fun x => x.1) (fun x => .int .i64 x.2.off) (fun _ => rfl) v _ _ ((fun s => !isShellB s) ∘ Prod.snd) xs w hro
  (fun x hx w1 h1 => isSack1_any _ x.2 w1 ⟨x.1, rfl, (hg x hx).ext h1⟩) enters_isSack1
theorem isSack2_any (t : Int × Bool) (b n : Nat) (sa : Option Addr) (sc : Nat) (w : World) (hn : n ≤ 1000000) (hc : w.cell? ⟨b, 0, none⟩ = some (.slice sa n sc)) :
  Calls Tryz.prog 87 #[.agg #[.int .i64 t.1, .bool t.2], .pointer (some ⟨b, 0, none⟩)] w fun e w' => e = .returned (.bool (!inB t.1 0 (n - 1))) ∧ Ext w w' := by
 have hc' := ((Ext.refl w).alloc (.cells #[.int .i64 t.1, .bool t.2] 104)).cell hc
 go_enter Tryz.func87, Tryz.ntmps87
 go_wp2_with (go_at_call 36; refine (in_any _ _ _ _).mono ?_; rintro e w' ⟨rfl, rfl⟩)
 go_ret
 exact ⟨rfl, (Ext.refl w).alloc _⟩
theorem enters_isSack2 : ∀ args w, (callFunc 87 args).run Tryz.prog w = .ok (.enter 87 args) w := enters_of Tryz.func87 (by kernel_rfl) rfl
theorem contains_isSack2 (v : Value) (ts : List (Int × Bool)) (b n : Nat) (sa : Option Addr) (sc : Nat) (w : World) (hn : n ≤ 1000000) (hv : RowOf testC w v ts) (hc : w.cell? ⟨b, 0, none⟩ = some (.slice sa n sc)) :
  Calls Tryz.prog 86 #[v, .func (.func 87) #[] #[.pointer (some ⟨b, 0, none⟩)]] w fun e w' => e = .returned (.bool (ts.any fun t => !inB t.1 0 (n - 1))) ∧ Ext w w' :=
 containsFuncT (f := testC) (fun t => .int .i64 t.1) (fun t => .bool t.2) (fun _ => rfl) v _ _ (fun t => !inB t.1 0 (n - 1)) ts w hv (fun t _ w1 h1 => isSack2_any t b n sa sc w1 hn (h1.cell hc)) enters_isSack2
theorem isSack_any (v : Value) (s : Sack) (w : World) (hs : SackAt w v s) :
  Calls Tryz.prog 47 #[v] w fun e w' => e = .returned (.bool (isSackB s)) ∧ Ext w w' := by
 obtain ⟨sv, tv, rfl, hsv, htv⟩ := hs
 have hlen : ∃ a c, sv = .slice a s.shells.length c := by
  obtain ⟨xs, hx, hro, _⟩ := hsv
  obtain ⟨a, c, h, _⟩ := RowAt.open hro
  exact ⟨a, c, by rw [h, ← hx]; simp⟩
 have HA := Lib.hid (fun w1 (hx : Ext w w1) => contains_isSack1 sv s.shells w1 (hsv.ext hx))
 have HB := Lib.hid (fun k sa sc w1 (hn : s.shells.length ≤ 1000000) (hx : Ext w w1) hc => contains_isSack2 tv s.tests k s.shells.length sa sc w1 hn (htv.ext hx) hc)
 obtain ⟨a, c, rfl⟩ := hlen
 obtain ⟨ta, tc, rfl, _⟩ := RowAt.open htv
 clear hsv htv
 by_cases h1 : inB s.shells.length 1 4 = true
 ·obtain ⟨l1, l2⟩ := inB_iff.1 h1
  by_cases h2 : s.tests.length ≤ 6
  ·have t2 : decide ((s.tests.length : Int) ≤ 6) = true := by simp; omega
   go_enter Tryz.func47, Tryz.ntmps47
   go_wp2_with (first
    | (go_at_call 36; refine (in_any _ _ _ _).mono ?_; rintro e w' ⟨rfl, rfl⟩)
    | (go_at_call 84; refine (HA.out _ ((Ext.refl w).alloc _)).mono ?_; rintro e w1 ⟨rfl, hx1⟩; have q0 := hx1.cell (a := ⟨w.heap.size, 0, none⟩) (v := .slice a s.shells.length c) (by go_simp); have q1 := hx1.cell (a := ⟨w.heap.size, 1, none⟩) (v := .slice ta s.tests.length tc) (by go_simp))
    | (go_at_call 86; refine (HB.out _ a c _ (by omega) (((Ext.refl w).alloc _).trans hx1) q0).mono ?_; rintro e w2 ⟨rfl, hx2⟩))
   all_goals go_ret
   all_goals refine ⟨?_, by first | exact Ext.trans (Ext.trans ((Ext.refl w).alloc _) hx1) hx2 | exact Ext.trans ((Ext.refl w).alloc _) hx1⟩
   all_goals simp [isSackB, *]
  ·have t2 : decide ((s.tests.length : Int) ≤ 6) = false := by simp; omega
   have hbad : isSackB s = false := by simp [isSackB, h2]
   rw [hbad]
   clear h2 hbad
   go_enter Tryz.func47, Tryz.ntmps47
   go_wp2_with (first | (go_at_call 36; refine (in_any _ _ _ _).mono ?_; rintro e w' ⟨rfl, rfl⟩))
   all_goals go_ret
   all_goals exact ⟨rfl, (Ext.refl w).alloc _⟩
 ·have h1' : inB s.shells.length 1 4 = false := by simpa using h1
  have hbad : isSackB s = false := by simp [isSackB, h1']
  rw [hbad]
  clear h1 hbad
  go_enter Tryz.func47, Tryz.ntmps47
  go_wp2_with (first | (go_at_call 36; refine (in_any _ _ _ _).mono ?_; rintro e w' ⟨rfl, rfl⟩))
  all_goals go_ret
  all_goals exact ⟨rfl, (Ext.refl w).alloc _⟩
end Go.Proofs.YtiodjapdiflphaaGreatDoor
