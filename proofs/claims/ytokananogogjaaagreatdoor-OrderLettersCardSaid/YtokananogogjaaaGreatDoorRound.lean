/- A region that draws its order inside a round of a range over a function, walked by the plain laws: in the wide fence a round knows nothing that a plain frame does not know, but for 'defer'. -/
import Derived.Test.YtokananogogjaaaGreatDoorHeld
import Derived.Test.YtokananogogjaaaGreatDoorRange
import Derived.OrdersIn
import Derived.Test.YtokananogogjaaaGreatDoorOp
namespace Go.Proofs.YtokananogogjaaaGreatDoor
section
variable {P : Program} {ops : Array Oper} {Q : Exit → Act → World → Prop} {md : Region.Mode} {S : World → Prop} {l : Nat}
theorem rowsIn_wide {row : String} {args : Array Value} {w : World} {R : Value → World → Prop} (h : Rows P row args w R) : Go.RowsIn (Fence.wide.inRound l) 0 P row args w R :=
 fun c cs _ => let ⟨v, w', r, s⟩ := h c cs; ⟨v, w', r, stepsIn_wide.2 s⟩
theorem op_inRound {o : Oper} {a : Act} {w : World} {K : Act → World → Prop} (hd : ∀ c, o.op ≠ .defer c) (hQ : ¬ LetsOut Q) (h : o.wp P a w K Q ∨ (o.asks P a w ∧ LetsOut Q)) : o.wpIn (Fence.wide.inRound l) 0 P a w K Q := by
 have h := h.resolve_right (fun h => hQ h.2)
 unfold Oper.wp at h
 refine ⟨fun f _ => trivial, ?_⟩
 rw [Oper.semAt_eq _ _ _ hd]
 generalize (execOp a.eval o).run P w = r at h ⊢
 cases r with
 | ok x w' =>
  cases x <;> simp only [Oper.upon] at h <;> simp only [Oper.uponIn]
  case value => exact h
  case skip => exact h
  case defer => exact h
  case enter => exact ⟨fun h => by simp [Fence.wide] at h, callsIn_round h⟩
  case row => exact ⟨fun h => by simp [Fence.wide] at h, rowsIn_wide h⟩
 | halt x w' =>
  cases x <;> simp only [Oper.upon] at h <;> simp only [Oper.uponIn]
  exact h
theorem wpOp_inRound {i : Nat} {a : Act} {w : World} {K : Act → World → Prop} (hd : ∀ o, ops[i]? = some o → ∀ c, o.op ≠ .defer c) (hQ : ¬ LetsOut Q) (h : wpOp P ops Q i K a w) : wpOpIn (Fence.wide.inRound l) 0 P ops Q i K a w := by
 unfold wpOp at h
 unfold wpOpIn
 cases ho : ops[i]? with
 | none => rw [ho] at h; exact h
 | some o =>
  rw [ho] at h
  simp only at h ⊢
  split
  ·rename_i hw
   rw [if_pos hw] at h
   exact op_inRound (hd o ho) hQ h
  ·rename_i hw
   rw [if_neg hw] at h
   exact ⟨fun _ _ => trivial, h⟩
theorem wpAny_inRound (hd : ∀ (i : Nat) (o : Oper), ops[i]? = some o → ∀ c, o.op ≠ .defer c) (hQ : ¬ LetsOut Q) : ∀ (n : Nat) (li : Array Bool) (a : Act) (w : World), wpAny P md ops Q n li a w → wpAnyIn (Fence.wide.inRound l) 0 P md ops Q n li a w
 | 0, _, _, _, h => h
 | n + 1, _, _, _, h => ⟨h.1, fun i hi => wpOpIn_mono (fun _ _ k => wpAny_inRound hd hQ n _ _ _ k) (wpOp_inRound (hd i) hQ (h.2 i hi))⟩
def noDefer (ops : Array Oper) : Bool := ops.all fun o => match o.op with
 | .defer _ => false
 | _ => true
theorem noDefer_at (h : noDefer ops = true) (i : Nat) (o : Oper) (ho : ops[i]? = some o) (c : Call) : o.op ≠ .defer c := by
 unfold noDefer at h
 rw [Array.all_eq_true] at h
 obtain ⟨hi, rfl⟩ := Array.getElem?_eq_some_iff.1 ho
 have := h i hi
 intro e
 rw [e] at this
 cases this
/-- The beginning, in a round: S is shown of the world behind the draw, once, and handed on. -/
theorem wpIn_region_held_drew {id : Nat} {a : Act} {w : World} (hm : P.follows .mixedOrders = true) (hd : noDefer ops = true) (hQ : ¬ LetsOut Q) (hS : S w.drew)
  (h : S w.drew → wpAnyH P .any ops Q S ops.size (Array.replicate ops.size false) a w.drew) : (Code.region id ops true).wpIn (Fence.wide.inRound l) 0 P Q a w :=
 wpIn_region_any hm (wpAny_inRound (noDefer_at hd) hQ _ _ _ _ (wpAny_of_held _ _ _ _ (h hS)))
end
end Go.Proofs.YtokananogogjaaaGreatDoor
