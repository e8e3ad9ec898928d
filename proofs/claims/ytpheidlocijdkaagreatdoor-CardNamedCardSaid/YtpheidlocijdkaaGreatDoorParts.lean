/- What Total, Buttons, Agree answer, part by part. -/
import Derived.Test.YtpheidlocijdkaaGreatDoorOpened
namespace Go.Proofs.YtpheidlocijdkaaGreatDoor
open Go.RowKit

theorem spanRes_parts {r : Round} {p : Int × Int} {w : World} {e : Ending} {w' : World} (h : SpanRes r p w e w') : ∃ (q1 q2 err : Int), e = .returned (.tuple #[.agg #[.int .i64 q1, .int .i64 q2], .int .i64 err]) ∧ Ext w w' ∧
    (if isRoundB r = true then (if agreeB r (-1) = true then err = 0 ∧ q1 = p.1 ∧ q2 = p.2 else err = 7 ∧ q1 = 0 ∧ q2 = 0) else err = 2 ∧ q1 = 0 ∧ q2 = 0) := by
  obtain ⟨⟨q1, q2⟩, err, rfl, hx, hq⟩ := h
  refine ⟨q1, q2, err, rfl, hx, ?_⟩
  split <;> rename_i h1
  · rw [if_pos h1] at hq
    split <;> rename_i h2
    · rw [if_pos h2] at hq; obtain ⟨h3, h4⟩ := hq; exact ⟨h3, congrArg Prod.fst h4, congrArg Prod.snd h4⟩
    · rw [if_neg h2] at hq; simpa using hq
  · rw [if_neg h1] at hq; simpa using hq
theorem agree_parts {r : Round} {w : World} {e : Ending} {w' : World} (hh : AgreeRes r w e w') : ∃ (err : Int) (b : Bool), e = .returned (.tuple #[.bool b, .int .i64 err]) ∧ Ext w w' ∧ (if isRoundB r = true then err = 0 ∧ b = agreeB r (-1) else err = 2 ∧ b = false) := by
  obtain ⟨b, err, rfl, hx, hq⟩ := hh
  refine ⟨err, b, rfl, hx, ?_⟩
  by_cases h1 : isRoundB r = true
  · rw [if_pos h1] at hq ⊢
    refine ⟨hq.1, ?_⟩
    rw [Bool.eq_iff_iff, hq.2, agreeB_iff (roundB_of h1)]
  · rw [if_neg h1] at hq ⊢
    exact ⟨hq.2, hq.1⟩
end Go.Proofs.YtpheidlocijdkaaGreatDoor
