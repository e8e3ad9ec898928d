/- The reference's power and Has. -/
import Derived.Test.YtokananogogjaaaGreatDoorRbk
namespace Go.Proofs.YtokananogogjaaaGreatDoor
open Go.RowKit
theorem pow_le_16 {k : Nat} (h : k ≤ 4) : (1 : Int) ≤ 2 ^ k ∧ (2 : Int) ^ k ≤ 16 := by
 obtain h | h | h | h | h : k = 0 ∨ k = 1 ∨ k = 2 ∨ k = 3 ∨ k = 4 := by omega
 all_goals rw [h]; decide
theorem rpower_any (n : Nat) (w : World) (hn : n ≤ 5) : Calls Tryz.prog 26 #[.int .i64 (n : Int)] w fun e w' => e = .returned (.int .i64 (2 ^ n)) ∧ w = w' := by
 go_enter Tryz.func26, Tryz.ntmps26
 go_wp2
 go_loop [3, 4] (fun o i => ∃ k : Nat, k ≤ n ∧ i = .int .i64 (k : Int) ∧ o = .int .i64 (2 ^ k)) (fun _ i => n - (intOf i).toNat)
 case atStart => exact ⟨0, Nat.zero_le _, rfl, by simp⟩
 case round =>
  obtain ⟨k, hk, rfl, rfl⟩ := hrel
  by_cases hlt : k < n
  ·have x1 : decide ((k : Int) < (n : Int)) = true := by simpa using hlt
   obtain ⟨p0, p1⟩ := pow_le_16 (k := k) (by omega)
   have HP := Lib.hid (show (2 : Int) ^ (k + 1) = 2 * 2 ^ k by rw [Int.pow_succ, Int.mul_comm])
   generalize (2 : Int) ^ k = p at *
   have hw : IntKind.i64.wrap (2 * p) = 2 * p := IntWalk.i64_in _ (by omega)
   clear p0 p1
   go_wp2
   go_round
   case rel => exact ⟨k + 1, by omega, by go_num, by rw [HP.out]⟩
   case measure => simp [intOf]; omega
  ·have hke : k = n := by omega
   subst hke
   have x1 : decide ((k : Int) < (k : Int)) = false := by simp
   go_wp2
   go_ret
   exact ⟨rfl, rfl⟩
theorem testBit_div (s n : Nat) : (((s : Int) / 2 ^ n) % 2 == 1) = s.testBit n := by
 have h : ((s : Int) / 2 ^ n) % 2 = ((s / 2 ^ n % 2 : Nat) : Int) := by push_cast; rfl
 rw [h]
 rw [Nat.testBit_eq_decide_div_mod_eq]
 rw [Bool.eq_iff_iff, beq_iff_eq, decide_eq_true_eq]; omega
theorem rhas_any (s n : Nat) (w : World) (hn : n ≤ 5) (hs : s ≤ 1000) : Calls Tryz.prog 12 #[.int .i64 (s : Int), .int .i64 (n : Int)] w fun e w' => e = .returned (.bool (s.testBit n)) ∧ w = w' := by
 have HP := Lib.hid (fun W => rpower_any n W hn)
 have HT := Lib.hid (testBit_div s n)
 have h1 : (1 : Int) ≤ 2 ^ n := by
  obtain h | h : n ≤ 4 ∨ n = 5 := by omega
  ·exact (pow_le_16 h).1
  ·rw [h]; decide
 have hd0 : (0 : Int) ≤ (s : Int) / 2 ^ n := Int.ediv_nonneg (by omega) (by omega)
 have hd1 : (s : Int) / 2 ^ n ≤ s := Int.ediv_le_self _ (by omega)
 have hz : ¬ (2 : Int) ^ n = 0 := by omega
 have hw : wrap64 ((s : Int) / 2 ^ n) = (s : Int) / 2 ^ n := IntWalk.wrap64_in _ (by omega)
 have HM := Lib.hid (Int.tmod_eq_emod_of_nonneg hd0 (b := 2))
 generalize hp : (2 : Int) ^ n = p at *
 clear hp h1 hd0 hd1
 go_enter Tryz.func12, Tryz.ntmps12
 go_wp2_with (go_at_call 26; refine (HP.out _).mono ?_; rintro e w1 ⟨rfl, rfl⟩)
 go_ret
 refine ⟨?_, rfl⟩
 rw [← HT.out, ← HM.out]
 rfl
end Go.Proofs.YtokananogogjaaaGreatDoor
