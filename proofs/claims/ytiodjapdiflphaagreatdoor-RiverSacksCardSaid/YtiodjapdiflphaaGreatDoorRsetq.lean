/- The reference's Count. -/
import Derived.Test.YtiodjapdiflphaaGreatDoorPlainq
import Derived.Test.YtiodjapdiflphaaGreatDoorRefa
import Derived.Test.YtiodjapdiflphaaGreatDoorStateb
import Derived.Test.YtiodjapdiflphaaGreatDoorReads
import Derived.Test.YtiodjapdiflphaaGreatDoorRtwoq
namespace Go.Proofs.YtiodjapdiflphaaGreatDoor
open Go.RowKit
theorem count_half : ∀ q, q < 16 → countB 4 q = q % 2 + countB 4 (q / 2) := by decide +kernel
set_option maxRecDepth 100000 in
set_option maxHeartbeats 2000000 in
theorem rcount_any (p : Nat) (w : World) (hp : p < 16) :
  Calls Tryz.prog 54 #[.int .i64 (p : Int)] w fun e w' => e = .returned (.int .i64 (manyB p : Int)) ∧ Ext w w' := by
 rw [← count_many p hp]
 have HC := Lib.hid (manyB_le p)
 rw [← count_many p hp] at HC
 generalize hm : countB 4 p = m at HC ⊢
 have HM := Lib.hid hm
 clear hm
 go_enter Tryz.func54, Tryz.ntmps54
 go_wp2
 go_loopw [0, 3] (fun a o wr => ∃ q n : Nat, q < 16 ∧ a = .int .i64 (q : Int) ∧ o = .int .i64 (n : Int) ∧ Hid (n + countB 4 q = m) ∧ Ext w wr) (fun a _ _ => (intOf a).toNat)
 case atStart => exact ⟨p, 0, hp, rfl, rfl, by unfold Hid; rw [HM.out]; omega, Ext.refl _⟩
 case round =>
  obtain ⟨q, n, hq, rfl, rfl, hn, hx⟩ := hrel
  by_cases h0 : q = 0
  ·subst h0
   have x1 : decide ((0 : Int) < ((0 : Nat) : Int)) = false := rfl
   go_wp2
   go_ret
   exact ⟨by have := hn.out; rw [← this]; rfl, hx⟩
  ·have x1 : decide ((0 : Int) < (q : Int)) = true := by simp; omega
   go_wp2
   have hh := count_half q hq
   have h1 := hn.out
   have h2 := HC.out
   refine ⟨⟨q / 2, n + q % 2, by omega, by first | go_num | (congr 1; omega), by rw [IntWalk.wrap64_in _ (by omega)]; congr 1, by unfold Hid; omega, hx⟩, by simp [intOf]; omega⟩
end Go.Proofs.YtiodjapdiflphaaGreatDoor

/- The reference's decided. -/
namespace Go.Proofs.YtiodjapdiflphaaGreatDoor
open Go.RowKit
/-- Marks, in memory. -/
def MarksAt (w : World) (v : Value) (n : Nat) (l : List Nat) : Prop := RowAt w v n ((marksOf n l).map .bool)
theorem MarksAt.ext {w w' : World} {v : Value} {n : Nat} {l : List Nat} (h : MarksAt w v n l) (k : Ext w w') : MarksAt w' v n l := RowAt.ext h k
theorem MarksAt.open {w : World} {v : Value} {n : Nat} {l : List Nat} (h : MarksAt w v n l) : ∃ a c, v = .slice a n c ∧ n ≤ c ∧ c ≤ 9223372036854775807 ∧ ∀ i, i < n → ∃ b o, a = some ⟨b, o, none⟩ ∧ w.cell? ⟨b, o + i, none⟩ = some (.bool (decide (i ∈ l))) := by
 obtain ⟨a, c, hv, h1, h2, h3⟩ := RowAt.open h
 refine ⟨a, c, hv, h1, h2, fun i hi => ?_⟩
 exact h3 i _ (by rw [List.getElem?_map, marks_at hi]; rfl)
end Go.Proofs.YtiodjapdiflphaaGreatDoor

/- The reference's after. -/
namespace Go.Proofs.YtiodjapdiflphaaGreatDoor
open Go.RowKit
theorem info_boolr : (Tryz.prog.info? 4).map (fun i => (i.zero, i.size, i.bytes)) = some (some (.bool false), 1, 1) := by kernel_rfl
theorem madeCells_bool (n : Nat) : madeCells (Value.bool false).cells (n * 1) = ((List.replicate n false).map Value.bool).toArray := by
 apply Array.ext
 ·simp [size_madeCells]
 ·intro i h1 h2
  simp [madeCells]
  show (#[Value.bool false] : Array Value)[i % 1]! = _
  rw [Nat.mod_one]
  rfl
end Go.Proofs.YtiodjapdiflphaaGreatDoor
