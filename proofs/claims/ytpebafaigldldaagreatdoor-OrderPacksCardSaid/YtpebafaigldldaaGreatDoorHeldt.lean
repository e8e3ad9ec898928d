/- Regions with two conditions. -/
import Derived.Test.YtpebafaigldldaaGreatDoorHeld
namespace Go.Proofs.YtpebafaigldldaaGreatDoor
open Go.RowKit
section
variable {P : Program} {ops : Array Oper} {Q : Exit → Act → World → Prop} {md : Region.Mode} {S T : World → Prop} {zs : List Nat}
/-- Whatever order is picked from here on; S holds behind every operation, T behind those that are not listed in zs. -/
def wpTwo (P : Program) (md : Region.Mode) (ops : Array Oper) (Q : Exit → Act → World → Prop) (S T : World → Prop) (zs : List Nat) : Nat → Array Bool → Act → World → Prop
 | 0, l, a, w => Region.ready md ops l = [] ∧ Q .normal a w
 | n + 1, l, a, w => (Region.ready md ops l = [] → Q .normal a w) ∧
  ∀ i, i ∈ Region.ready md ops l → wpOp P ops Q i (fun b v => S v ∧ (zs.contains i = false → T v) ∧ wpTwo P md ops Q S T zs n (l.setIfInBounds i true) b v) a w
theorem wpAny_of_two : ∀ (n : Nat) (l : Array Bool) (a : Act) (w : World), wpTwo P md ops Q S T zs n l a w → wpAny P md ops Q n l a w
 | 0, _, _, _, h => h
 | n + 1, _, _, _, h => ⟨h.1, fun i hi => wpOp_mono (fun _ _ k => wpAny_of_two n _ _ _ k.2.2) (h.2 i hi)⟩
theorem two_first {U : World → Prop} {i : Nat} {o : Oper} {v : Value} (hi : ops[i]? = some o) (hsel : ∀ (j : Nat) (x : Oper) cs b, ops[j]? = some x → x.op ≠ .select cs b)
  (hQ : ∀ c a w, Q (.panic c) (a.put o.dst v) w → Q (.panic c) a w) :
  ∀ (n : Nat) (l : Array Bool) (a : Act) (w : World),
   (∀ z, zs.contains z = true → l.getD z true = true ∨ ((∀ v, S v → U v) ∨ ∀ x, ops[z]? = some x → ∃ e, e ∈ x.after ∧ Region.binds md e = true ∧ e.on = i)) →
   (∀ j x, ops[j]? = some x → j ≠ i → l.getD j true = false → (∀ e ∈ x.after, Region.binds md e = true → e.on ≠ i) → o.apart ops x = true) →
   (∀ v, S v → T v → U v) → (∀ v, U v → zs.contains i = false → T v) →
   i ∈ Region.ready md ops l → YieldsIf P ops U o v a → S w → U w →
   wpTwo P md ops Q S T zs n (l.setIfInBounds i true) (a.put o.dst v) w → wpTwo P md ops Q S T zs (n + 1) l a w := by
 intro n
 induction n with
 | zero =>
  intro l a w _ _ _ hUT hr hy hS hU k
  refine ⟨fun e => (by rw [e] at hr; cases hr), fun j hj => ?_⟩
  by_cases e : j = i
  ·subst e
   exact hy.wpOp hi hU ⟨hS, hUT _ hU, k⟩
  ·have := ready_mono hj e
   rw [k.1] at this
   cases this
 | succ n ih =>
  intro l a w hz hf hSU hUT hr hy hS hU k
  refine ⟨fun e => (by rw [e] at hr; cases hr), fun j hj => ?_⟩
  by_cases e : j = i
  ·subst e
   exact hy.wpOp hi hU ⟨hS, hUT _ hU, k⟩
  ·have k1 := k.2 j (ready_mono hj e)
   obtain ⟨hju, x, hx, hall⟩ := mem_ready.1 hj
   have hno : ∀ e ∈ x.after, Region.binds md e = true → e.on ≠ i := fun z hz hb h => by
    have g1 := hall z hz hb
    have g0 := (mem_ready.1 hr).1
    rw [h] at g1
    rcases Nat.lt_or_ge i l.size with q | q
    ·simp [q] at g0 g1; rw [g0] at g1; cases g1
    ·simp [Array.getElem?_eq_none q] at g1
   have k2 := wpOp_putIf hx (hf j x hx e hju hno) (fun cs b => hsel i o cs b hi) (fun cs b => hsel j x cs b hx) hQ hy k1
   have hr2 := ready_mono hr (Ne.symm e)
   refine wpOp_mono (fun b u k3 => ?_) k2
   have hSu := k3.2.1
   have hUu : U u := by
    cases hc : zs.contains j with
    | false => exact hSU _ hSu (k3.2.2.1 hc)
    | true =>
     rcases hz j hc with h | h | h
     ·rw [hju] at h; cases h
     ·exact h _ hSu
     ·obtain ⟨y, hy1, hy2, hy3⟩ := h x hx
      exact absurd hy3 (hno y hy1 hy2)
   have hz2 : ∀ z, zs.contains z = true → (l.setIfInBounds j true).getD z true = true ∨ ((∀ v, S v → U v) ∨ ∀ x, ops[z]? = some x → ∃ e, e ∈ x.after ∧ Region.binds md e = true ∧ e.on = i) := fun z hc => by
    rcases hz z hc with h | h
    ·left
     by_cases q : j = z
     ·subst q; rw [h] at hju; cases hju
     ·rw [getD_set_ne true q]; exact h
    ·exact .inr h
   have hf2 : ∀ m x, ops[m]? = some x → m ≠ i → (l.setIfInBounds j true).getD m true = false → (∀ e ∈ x.after, Region.binds md e = true → e.on ≠ i) → o.apart ops x = true := fun m x hm hmi hun hn => by
    refine hf m x hm hmi ?_ hn
    by_cases q : j = m
    ·subst q; exact hju
    ·rw [getD_set_ne true q] at hun; exact hun
   refine ⟨hSu, k3.2.2.1, ih (l.setIfInBounds j true) b u hz2 hf2 hSU hUT hr2 k3.1 hSu hUu ?_⟩
   rw [Array.setIfInBounds_comm _ _ e]
   exact k3.2.2.2
/-- A reading operation that the lasting condition decides; it is listed. -/
theorem two_takeS {i : Nat} {d : Option Tmp} {v : Value} {n : Nat} {l : Array Bool} {a : Act} {w : World} (hd : (ops[i]?).map (fun o => o.dst) = some d) (hzi : zs.contains i = true)
  (hs : Region.noSelect ops = true) (hf : Region.free md ops l i = true) (hr : (Region.ready md ops l).contains i = true)
  (hQ : ∀ c a w, Q (.panic c) (a.put d v) w → Q (.panic c) a w) (hy : ∀ o, ops[i]? = some o → Region.wanted o (yielded ops a.tmps) = true ∧ ∀ w, S w → (execOp a.eval o).run P w = .ok (.value v) w) (hS : S w)
  (h : wpTwo P md ops Q S T zs n (l.setIfInBounds i true) (a.put d v) w) : wpTwo P md ops Q S T zs (n + 1) l a w := by
 cases ho : ops[i]? with
 | none => rw [ho] at hd; cases hd
 | some o =>
  rw [ho] at hd
  obtain rfl : o.dst = d := by simpa using hd
  exact two_first (U := S) ho (Region.noSelect_spec hs) hQ n l a w (fun z _ => .inr (.inl fun v hv => hv)) (Region.free_spec ho hf) (fun v hv _ => hv) (fun v _ hc => by rw [hzi] at hc; cases hc) (by simpa using hr) (Or.inl (hy o ho)) hS hS h
/-- A reading operation that the passing condition decides. -/
theorem two_takeT {i : Nat} {d : Option Tmp} {v : Value} {n : Nat} {l : Array Bool} {a : Act} {w : World} (hd : (ops[i]?).map (fun o => o.dst) = some d)
  (hz : (zs.all fun z => l.getD z true || (ops[z]?.map fun x => x.after.toList.any fun e => Region.binds md e && e.on == i) == some true) = true)
  (hs : Region.noSelect ops = true) (hf : Region.free md ops l i = true) (hr : (Region.ready md ops l).contains i = true)
  (hQ : ∀ c a w, Q (.panic c) (a.put d v) w → Q (.panic c) a w) (hy : ∀ o, ops[i]? = some o → Region.wanted o (yielded ops a.tmps) = true ∧ ∀ w, T w → (execOp a.eval o).run P w = .ok (.value v) w) (hS : S w) (hT : T w)
  (h : wpTwo P md ops Q S T zs n (l.setIfInBounds i true) (a.put d v) w) : wpTwo P md ops Q S T zs (n + 1) l a w := by
 cases ho : ops[i]? with
 | none => rw [ho] at hd; cases hd
 | some o =>
  rw [ho] at hd
  obtain rfl : o.dst = d := by simpa using hd
  refine two_first (U := T) ho (Region.noSelect_spec hs) hQ n l a w (fun z hc => ?_) (Region.free_spec ho hf) (fun v _ hv => hv) (fun v hv _ => hv) (by simpa using hr) (Or.inl (hy o ho)) hS hT h
  have hm : z ∈ zs := by simpa using hc
  have h1 := (List.all_eq_true.1 hz) z hm
  rw [Bool.or_eq_true] at h1
  rcases h1 with h1 | h1
  ·exact .inl h1
  ·refine .inr (.inr fun x hx => ?_)
   rw [hx] at h1
   simp only [Option.map_some, beq_iff_eq, Option.some.injEq, List.any_eq_true, Bool.and_eq_true] at h1
   obtain ⟨e, e1, e2, e3⟩ := h1
   exact ⟨e, by simpa using e1, e2, e3⟩
/-- All that may come up now. -/
def AllTwo (P : Program) (md : Region.Mode) (ops : Array Oper) (Q : Exit → Act → World → Prop) (S T : World → Prop) (zs : List Nat) (n : Nat) (l : Array Bool) (a : Act) (w : World) (rs : List Nat) : Prop :=
 ∀ i, i ∈ rs → wpOp P ops Q i (fun b v => S v ∧ (zs.contains i = false → T v) ∧ wpTwo P md ops Q S T zs n (l.setIfInBounds i true) b v) a w
theorem AllTwo.nil {n : Nat} {l : Array Bool} {a : Act} {w : World} : AllTwo P md ops Q S T zs n l a w [] := fun i hi => by cases hi
theorem two_ready {n : Nat} {l : Array Bool} {a : Act} {w : World} {rs : List Nat} (hr : Region.ready md ops l = rs) (hne : rs ≠ []) (h : AllTwo P md ops Q S T zs n l a w rs) : wpTwo P md ops Q S T zs (n + 1) l a w :=
 ⟨fun e => absurd (hr.symm.trans e) hne, fun i hi => h i (by rw [hr] at hi; exact hi)⟩
theorem two_step {i : Nat} {n : Nat} {l : Array Bool} {a : Act} {w : World} {rs : List Nat} (hi : (ops[i]?).isSome = true)
  (h : ∀ o, ops[i]? = some o → ∀ K' : Act → World → Prop, Shut (∀ b v, S v → (zs.contains i = false → T v) → (S v → (zs.contains i = false → T v) → wpTwo P md ops Q S T zs n (l.setIfInBounds i true) b v) → K' b v) →
   if Region.wanted o (yielded ops a.tmps) = true then Oper.wp P o a w K' Q else K' (a.put o.dst undef) w) (hs : AllTwo P md ops Q S T zs n l a w rs) : AllTwo P md ops Q S T zs n l a w (i :: rs) := by
 obtain ⟨o, ho⟩ := Option.isSome_iff_exists.1 hi
 intro j hj
 rcases List.mem_cons.1 hj with rfl | hj
 ·exact wpOp_step ho (fun K' hK => h o ho K' (fun b v h1 h2 h3 => hK b v ⟨h1, h2, h3 h1 h2⟩))
 ·exact hs j hj
theorem two_done {l : Array Bool} {a : Act} {w : World} (hr : Region.ready md ops l = []) (h : Q .normal a w) : ∀ n, wpTwo P md ops Q S T zs n l a w
 | 0 => ⟨hr, h⟩
 | _ + 1 => ⟨fun _ => h, by rw [hr]; simp⟩
end
end Go.Proofs.YtpebafaigldldaaGreatDoor
