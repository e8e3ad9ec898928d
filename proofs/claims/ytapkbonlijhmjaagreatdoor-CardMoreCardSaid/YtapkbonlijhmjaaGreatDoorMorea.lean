/- The law CardMore: what Known and Plan answer, way by way. -/
import Derived.Test.YtapkbonlijhmjaaGreatDoorMorep
namespace Go.Proofs.YtapkbonlijhmjaaGreatDoor
open Go.RowKit

def KnownAns (n : Nat) (L : List (Int × Int)) (g : Int) (w : World) (e : Ending) (w' : World) : Prop := ∃ ka kc, e = .returned (.tuple #[.slice ka n kc, .int .i64 g]) ∧ Ext w w' ∧ SpansAt w' (.slice ka n kc) L
def PlanAns (n : Nat) (g : Int) (w : World) (e : Ending) (w' : World) : Prop := ∃ pa pc d, e = .returned (.tuple #[.slice pa n pc, .int .i64 d, .int .i64 g]) ∧ Ext w w'
theorem known_yes {r : Round} {w w' : World} {e : Ending} (hb : isRoundB r = true) (ha : agreeB r (-1) = true) (h : KnownRes r w e w') : KnownAns r.houses.length (knownL r) 0 w e w' := by
  obtain ⟨v, err, rfl, hx, hq⟩ := h
  rw [if_pos hb, if_pos ha] at hq
  obtain ⟨rfl, hs⟩ := hq
  obtain ⟨a, c, rfl, _⟩ := hs.open
  rw [knownL_length] at hs ⊢
  exact ⟨a, c, rfl, hx, hs⟩
theorem known_no {r : Round} {w w' : World} {e : Ending} (hb : isRoundB r = true) (ha : agreeB r (-1) = false) (h : KnownRes r w e w') : KnownAns 0 [] 7 w e w' := by
  obtain ⟨v, err, rfl, hx, hq⟩ := h
  rw [if_pos hb, if_neg (by rw [ha]; simp)] at hq
  obtain ⟨rfl, rfl⟩ := hq
  exact ⟨none, 0, rfl, hx, SpansAt.nil _⟩
theorem plan_heavy {c : Roads} {w w' : World} {e : Ending} (hr : isRoadsB c = true) (hl : c.bears < maxL c.loads) (h : PlanRes c w e w') : PlanAns 0 5 w e w' := by
  obtain ⟨nv, d, err, rfl, hx, hq⟩ := h
  rw [if_neg (by rw [hr]; simp), if_pos hl] at hq
  obtain ⟨rfl, rfl, rfl⟩ := hq
  exact ⟨none, 0, 0, rfl, hx⟩
theorem plan_light {c : Roads} {p : List (List Int)} {w w' : World} {e : Ending} (hr : isRoadsB c = true) (hl : ¬ c.bears < maxL c.loads) (hp : bestPlan c = some p) (h : PlanRes c w e w') : PlanAns p.length 0 w e w' := by
  obtain ⟨nv, d, err, rfl, hx, hq⟩ := h
  rw [if_neg (by rw [hr]; simp), if_neg hl, hp] at hq
  obtain ⟨rfl, rfl, hrow⟩ := hq
  obtain ⟨a, k, rfl, _⟩ := hrow.open
  exact ⟨a, k, _, rfl, hx⟩
def PlanOn (q : Roads) (n : Nat) (g : Int) : Prop := ∀ v w, RoadsAt w v q → Calls Tryz.prog 13 #[v] w (PlanAns n g w)
theorem more_plans {q : Roads} {more : Int} (hm : 0 ≤ more) (hr : isRoadsB q = true) : (PlanOn q 0 5 ∧ PlanOn (wideC more q) 0 5) ∨ (∃ n, PlanOn q 0 5 ∧ PlanOn (wideC more q) n 0) ∨ (∃ n m : Nat, m ≤ n ∧ PlanOn q n 0 ∧ PlanOn (wideC more q) m 0) := by
  have hr2 := wide_roads hm hr
  have b2 := (roadsB_of hr).b2
  have e1 : (wideC more q).bears = min 1000 (q.bears + more) := rfl
  have e2 : (wideC more q).loads = q.loads := rfl
  by_cases hl : q.bears < maxL q.loads
  · have hp : PlanOn q 0 5 := fun v w h => (plan_any v q w h).mono (fun e w' h => plan_heavy hr hl h)
    by_cases hl2 : (wideC more q).bears < maxL (wideC more q).loads
    · exact .inl ⟨hp, fun v w h => (plan_any v _ w h).mono (fun e w' h => plan_heavy hr2 hl2 h)⟩
    · obtain ⟨p, hb⟩ := best_some hr2 hl2
      exact .inr (.inl ⟨p.length, hp, fun v w h => (plan_any v _ w h).mono (fun e w' h => plan_light hr2 hl2 hb h)⟩)
  · have hl2 : ¬ (wideC more q).bears < maxL (wideC more q).loads := by rw [e1, e2]; omega
    obtain ⟨p, hb⟩ := best_some hr hl
    obtain ⟨p2, hb2⟩ := best_some hr2 hl2
    exact .inr (.inr ⟨p.length, p2.length, wide_fewer hm hr hb hb2, fun v w h => (plan_any v q w h).mono (fun e w' h => plan_light hr hl hb h), fun v w h => (plan_any v _ w h).mono (fun e w' h => plan_light hr2 hl2 hb2 h)⟩)
end Go.Proofs.YtapkbonlijhmjaaGreatDoor
