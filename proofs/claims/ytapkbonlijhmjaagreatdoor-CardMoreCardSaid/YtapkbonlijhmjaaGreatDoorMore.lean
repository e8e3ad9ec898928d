/- The law CardMore: the walk. -/
import Derived.Test.YtapkbonlijhmjaaGreatDoorMorel0
import Derived.Test.YtapkbonlijhmjaaGreatDoorMorel1
import Derived.Test.YtapkbonlijhmjaaGreatDoorMorel2
namespace Go.Proofs.YtapkbonlijhmjaaGreatDoor
open Go.RowKit

theorem cardMore_any (v : Value) (r : Round) (more : Int) (qv : Value) (q : Roads) (w : World) (hr : RoundAt w v r) (hR : RoadsAt w qv q) (ht : TabOk w) : Calls Tryz.prog 4 #[v, .int .i64 more, qv] w (TrueP w) := by
  cases h1 : slimB r with
  | false => exact more_e0 v r more qv q w hr hR ht h1
  | true =>
  cases h2 : shortB q with
  | false => exact more_e1 v r more qv q w hr hR ht h1 h2
  | true =>
  cases h3 : isRoundB r with
  | false => exact more_e2 v r more qv q w hr hR ht h1 h2 h3
  | true =>
  cases h4 : isRoadsB q with
  | false => exact more_e3 v r more qv q w hr hR ht h1 h2 h3 h4
  | true =>
  by_cases h5 : more < 0
  · exact more_e4 v r more qv q w hr hR ht h1 h2 h3 h4 h5
  have h5' : 0 ≤ more := by omega
  by_cases h6 : 500 < more
  · exact more_e5 v r more qv q w hr hR ht h1 h2 h3 h4 h5' h6
  have h6' : more ≤ 500 := by omega
  have hw := wide_round h5' h3
  cases ha : agreeB r (-1) with
  | true =>
    have ha2 := wide_agree h5' h3 ha
    exact more_l0 v r more qv q w hr hR ht h1 h2 h3 h4 h5' h6' (knownL r) (knownL (wideR more r)) _ _ (knownL_length r) (by rw [knownL_length, wide_len]) rfl rfl
      (fun w1 v1 h => (known_any v1 r w1 h).mono (fun e w' h => known_yes h3 ha h))
      (fun w1 v1 h => (known_any v1 _ w1 h).mono (fun e w' h => by have := known_yes hw ha2 h; rwa [wide_len] at this))
      (fun i x hx => by
        have hi : i < (knownL (wideR more r)).length := by
          have := (List.getElem?_eq_some_iff.1 hx).1
          rw [knownL_length] at this
          rw [knownL_length, wide_len]
          exact this
        have hy := List.getElem?_eq_getElem hi
        exact ⟨_, hy, wide_known h5' h3 ha hx hy⟩)
  | false =>
    cases ha2 : agreeB (wideR more r) (-1) with
    | true =>
      exact more_l1 v r more qv q w hr hR ht h1 h2 h3 h4 h5' h6' [] (knownL (wideR more r)) 0 (wideR more r).houses.length rfl (knownL_length _)
        (fun w1 v1 h => (known_any v1 r w1 h).mono (fun e w' h => known_no h3 ha h))
        (fun w1 v1 h => (known_any v1 _ w1 h).mono (fun e w' h => known_yes hw ha2 h))
        (fun i x hx => by simp at hx)
    | false =>
      exact more_l2 v r more qv q w hr hR ht h1 h2 h3 h4 h5' h6' [] [] 0 0 rfl rfl
        (fun w1 v1 h => (known_any v1 r w1 h).mono (fun e w' h => known_no h3 ha h))
        (fun w1 v1 h => (known_any v1 _ w1 h).mono (fun e w' h => known_no hw ha2 h))
        (fun i x hx => by simp at hx)
end Go.Proofs.YtapkbonlijhmjaaGreatDoor
