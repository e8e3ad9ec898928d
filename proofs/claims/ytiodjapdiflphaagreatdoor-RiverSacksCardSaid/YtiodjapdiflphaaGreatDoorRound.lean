/- A region that draws its order inside a round of a range over a function, walked by the plain laws: in the wide fence a round knows nothing that a plain frame does not know, but for 'defer'. -/
import Derived.Test.YtiodjapdiflphaaGreatDoorHeldq
import Derived.Test.YtiodjapdiflphaaGreatDoorRange
import Derived.OrdersIn
import Derived.Test.YtiodjapdiflphaaGreatDoorTrutha
namespace Go.Proofs.YtiodjapdiflphaaGreatDoor
section
variable {P : Program} {ops : Array Oper} {Q : Exit → Act → World → Prop} {md : Region.Mode} {S : World → Prop} {l : Nat}
theorem rowsIn_wide {row : String} {args : Array Value} {w : World} {R : Value → World → Prop} (h : Rows P row args w R) : Go.RowsIn (Fence.wide.inRound l) 0 P row args w R :=
 fun c cs _ => let ⟨v, w', r, s⟩ := h c cs; ⟨v, w', r, stepsIn_wide.2 s⟩
theorem callsIn_round {f : FuncId} {args : Array Value} {w : World} {R : Ending → World → Prop} (h : Calls P f args w R) : CallsIn (Fence.wide.inRound l) 0 P f args w R :=
 callsIn_wide.2 h
theorem op_inRound {o : Oper} {a : Act} {w : World} {K : Act → World → Prop} (hd : ∀ c, o.op ≠ .defer c) (hQ : ¬ LetsOut Q) (h : o.wp P a w K Q ∨ (o.asks P a w ∧ LetsOut Q)) : o.wpIn (Fence.wide.inRound l) 0 P a w K Q := by
 have h := h.resolve_right (fun h => hQ h.2)
 unfold Oper.wp at h
 refine ⟨fun f _ => trivial, ?_⟩
 rw [Oper.semAt_eq _ _ _ hd]
 generalize (execOp a.eval o).run P w = r at h ⊢
 cases r with
 | ok x w' =>
  cases x <;> simp only [Oper.upon] at h <;> simp only [Oper.uponIn]
  case value => exact h
  case skip => exact h
  case defer => exact h
  case enter => exact ⟨fun h => by simp [Fence.wide] at h, callsIn_round h⟩
  case row => exact ⟨fun h => by simp [Fence.wide] at h, rowsIn_wide h⟩
 | halt x w' =>
  cases x <;> simp only [Oper.upon] at h <;> simp only [Oper.uponIn]
  exact h
theorem wpOp_inRound {i : Nat} {a : Act} {w : World} {K : Act → World → Prop} (hd : ∀ o, ops[i]? = some o → ∀ c, o.op ≠ .defer c) (hQ : ¬ LetsOut Q) (h : wpOp P ops Q i K a w) : wpOpIn (Fence.wide.inRound l) 0 P ops Q i K a w := by
 unfold wpOp at h
 unfold wpOpIn
 cases ho : ops[i]? with
 | none => rw [ho] at h; exact h
 | some o =>
  rw [ho] at h
  simp only at h ⊢
  split
  ·rename_i hw
   rw [if_pos hw] at h
   exact op_inRound (hd o ho) hQ h
  ·rename_i hw
   rw [if_neg hw] at h
   exact ⟨fun _ _ => trivial, h⟩
theorem wpAny_inRound (hd : ∀ (i : Nat) (o : Oper), ops[i]? = some o → ∀ c, o.op ≠ .defer c) (hQ : ¬ LetsOut Q) : ∀ (n : Nat) (li : Array Bool) (a : Act) (w : World), wpAny P md ops Q n li a w → wpAnyIn (Fence.wide.inRound l) 0 P md ops Q n li a w
 | 0, _, _, _, h => h
 | n + 1, _, _, _, h => ⟨h.1, fun i hi => wpOpIn_mono (fun _ _ k => wpAny_inRound hd hQ n _ _ _ k) (wpOp_inRound (hd i) hQ (h.2 i hi))⟩
def noDefer (ops : Array Oper) : Bool := ops.all fun o => match o.op with
 | .defer _ => false
 | _ => true
theorem noDefer_at (h : noDefer ops = true) (i : Nat) (o : Oper) (ho : ops[i]? = some o) (c : Call) : o.op ≠ .defer c := by
 unfold noDefer at h
 rw [Array.all_eq_true] at h
 obtain ⟨hi, rfl⟩ := Array.getElem?_eq_some_iff.1 ho
 have := h i hi
 intro e
 rw [e] at this
 cases this
/-- The beginning, in a round: S is shown of the world behind the draw, once, and handed on. -/
theorem wpIn_region_held_drew {id : Nat} {a : Act} {w : World} (hm : P.follows .mixedOrders = true) (hd : noDefer ops = true) (hQ : ¬ LetsOut Q) (hS : S w.drew)
  (h : S w.drew → wpAnyH P .any ops Q S ops.size (Array.replicate ops.size false) a w.drew) : (Code.region id ops true).wpIn (Fence.wide.inRound l) 0 P Q a w :=
 wpIn_region_any hm (wpAny_inRound (noDefer_at hd) hQ _ _ _ _ (wpAny_of_held _ _ _ _ (h hS)))
end
end Go.Proofs.YtiodjapdiflphaaGreatDoor
/- origins: the closure that it makes. -/
namespace Go.Proofs.YtiodjapdiflphaaGreatDoor
open Go.RowKit
def OrgPost (b : Book) (rv gv : Value) (w : World) (e : Ending) (w' : World) : Prop :=
 ∃ sb xb, e = .returned (.func (.func 121) #[] #[.pointer (some ⟨sb, 0, none⟩), .pointer (some ⟨xb, 0, none⟩)]) ∧ Ext w w' ∧ w.heap.size ≤ sb ∧ w.heap.size ≤ xb ∧ sb < w'.heap.size ∧ xb < w'.heap.size ∧ OrgEnv b rv gv sb xb w'
theorem origins_any (b : Book) (rv sv tv gv : Value) (off : Int) (w : World) (hr : IsSlice rv) (hs : IsSlice sv) (ht : IsSlice tv) (hg : IsSlice gv) :
  Calls Tryz.prog 94 #[sackV b rv sv tv, .agg #[gv, .int .i64 off]] w (OrgPost b rv gv w) := by
 obtain ⟨ra, rn, rc, rfl⟩ := hr
 obtain ⟨sa, sn, sc, rfl⟩ := hs
 obtain ⟨ta, tn, tc, rfl⟩ := ht
 obtain ⟨ga, gn, gc, rfl⟩ := hg
 unfold sackV
 go_enter Tryz.func94, Tryz.ntmps94
 go_wp2
 go_ret
 exact ⟨_, _, rfl, ((Ext.refl w).alloc _).alloc _, Nat.le_refl _, by simp, by simp; omega, by simp, ⟨by go_simp, by go_simp, by go_simp⟩⟩
theorem enters_origins1 : ∀ args w, (callFunc 121 args).run Tryz.prog w = .ok (.enter 121 args) w := enters_of Tryz.func121 (by kernel_rfl) rfl
/-! ### What a node of the search keeps while its loop goes -/
theorem Quiet.cell_lt {n : Nat} {A B : World} (k : Quiet n A B) {a : Addr} {v : Value} (h : A.cell? a = some v) (hn : a.block < n) : B.cell? a = some v := by
 obtain ⟨o, ho, _⟩ := cells_of_cell h
 exact (World.cell?_of_block (w := A) ((k.keep _ _ ho (.inl hn)).trans ho.symm)).trans h
theorem Touch.quiet {n : Nat} {M : Nat → Prop} {A B C : World} (h : Touch M A B) (k : Quiet n B C) (hn : A.heap.size ≤ n) : Touch M A C :=
 ⟨k.os.trans h.os, k.tape.trans h.tape, k.output.trans h.output, Nat.le_trans h.size k.size, fun i o hi hm => k.keep i o (h.keep i o hi hm) (.inl (by have := (Array.getElem?_eq_some_iff.1 hi).1; omega))⟩
/-- The node of a state x, called in the world A; its own boxes lie at A's end. -/
structure NodeI (b : Book) (rv sv tv : Value) (w0 : World) (sb yb cb l : Nat) (J : (Nat → Prop) → World → Prop) (O : Nat → Prop) (x : State) (ov wv : Value) (A : World) (O1 : Nat → Prop) (W : World) : Prop where
 ti : TI b rv sv tv w0 sb yb cb l J O1 W
 st : StIn O1 W x (.agg #[ov, wv])
 tch : Touch O A W
 low : ∀ i, O1 i → O i ∨ A.heap.size + 3 ≤ i
 res : W.heap[A.heap.size + 1]? = some (.cells #[.bool false] 4)
 x0 : W.cell? ⟨A.heap.size, 0, none⟩ = some ov
 x1 : W.cell? ⟨A.heap.size, 1, none⟩ = some wv
 i0 : W.cell? ⟨A.heap.size + 2, 0, none⟩ = some (.int .i64 x.org.length)
theorem NodeI.quiet {b : Book} {rv sv tv : Value} {w0 : World} {sb yb cb l n m : Nat} {J : (Nat → Prop) → World → Prop} {O : Nat → Prop} {x : State} {ov wv : Value} {A : World} {O1 : Nat → Prop} {W W' : World} (h : NodeI b rv sv tv w0 sb yb cb l J O x ov wv A O1 W)
  (hJ : ∀ O, Stable m (J O)) (hm : m ≤ n) (hn : A.heap.size + 3 ≤ n) (h0 : w0.heap.size ≤ n) (k : Quiet n W W') (n1 : NB rv) (n2 : NB sv) (n3 : NB tv) : NodeI b rv sv tv w0 sb yb cb l J O x ov wv A O1 W' :=
 ⟨h.ti.quiet (fun O => (hJ O).mono hm) h0 k n1 n2 n3, h.st.quiet k, h.tch.quiet k (by omega), h.low, k.keep _ _ h.res (.inl (by omega)), k.cell_lt h.x0 (by simp only []; omega), k.cell_lt h.x1 (by simp only []; omega), k.cell_lt h.i0 (by simp only []; omega)⟩
theorem NodeI.ext {b : Book} {rv sv tv : Value} {w0 : World} {sb yb cb l m : Nat} {J : (Nat → Prop) → World → Prop} {O : Nat → Prop} {x : State} {ov wv : Value} {A : World} {O1 : Nat → Prop} {W W' : World} (h : NodeI b rv sv tv w0 sb yb cb l J O x ov wv A O1 W)
  (hJ : ∀ O, Stable m (J O)) (k : Ext W W') : NodeI b rv sv tv w0 sb yb cb l J O x ov wv A O1 W' :=
 ⟨h.ti.ext' hJ k, h.st.ext k, h.tch.trans (Touch.of_ext k), h.low, (Below.block k _ (Array.getElem?_eq_some_iff.1 h.res).1).trans h.res, k.cell h.x0, k.cell h.x1, k.cell h.i0⟩
theorem NodeI.post {b : Book} {rv sv tv : Value} {w0 : World} {sb yb cb l : Nat} {J J' : (Nat → Prop) → World → Prop} {O : Nat → Prop} {x : State} {ov wv : Value} {A : World} {O1 O' : Nat → Prop} {W W' : World} (h : NodeI b rv sv tv w0 sb yb cb l J O x ov wv A O1 W)
  (hO : ∀ i, O i → i < A.heap.size) (k : Touch O1 W W') (ho : ∀ i, O' i → (O1 i ∨ W.heap.size ≤ i) ∧ i < W'.heap.size) (hj : J' O' W') : NodeI b rv sv tv w0 sb yb cb l J' O x ov wv A O' W' := by
 have hl := h.low
 have hz := lt_of_cell h.i0
 have ne : ∀ j, A.heap.size ≤ j → j < A.heap.size + 3 → ¬ O1 j := fun j h1 h2 h3 => by
  rcases hl j h3 with h4 | h4
  ·have := hO j h4; omega
  ·omega
 refine ⟨h.ti.post k ho hj, h.st.step k (fun i hi => (ho i hi).1), ?_, fun i hi => ?_, k.keep _ _ h.res (ne _ (by omega) (by omega)), k.cell h.x0 (ne A.heap.size (Nat.le_refl _) (by omega)), k.cell h.x1 (ne A.heap.size (Nat.le_refl _) (by omega)), k.cell h.i0 (ne (A.heap.size + 2) (by omega) (by omega))⟩
 ·refine Touch.of_new (N := fun i => O i ∨ O1 i) ((h.tch.mono (fun i hi => .inl hi)).trans (k.mono (fun i hi => .inr hi))) (fun i hi hlt => ?_)
  rcases hi with hi | hi
  ·exact hi
  ·rcases hl i hi with h4 | h4
   ·exact h4
   ·omega
 ·rcases (ho i hi).1 with h4 | h4
  ·exact hl i h4
  ·have hz' : A.heap.size + 2 < W.heap.size := hz
   exact .inr (by omega)
theorem NodeI.keep {b : Book} {rv sv tv : Value} {w0 : World} {sb yb cb l : Nat} {J : (Nat → Prop) → World → Prop} {J' : (Nat → Prop) → World → Prop} {O : Nat → Prop} {x : State} {ov wv : Value} {A : World} {O1 : Nat → Prop} {W : World} (h : NodeI b rv sv tv w0 sb yb cb l J O x ov wv A O1 W)
  (hj : J' O1 W) : NodeI b rv sv tv w0 sb yb cb l J' O x ov wv A O1 W :=
 ⟨⟨h.ti.ext, h.ti.s0, h.ti.s1, h.ti.s2, h.ti.s3, h.ti.y, h.ti.c, h.ti.og, h.ti.olt, h.ti.o1, h.ti.o2, h.ti.o3, hj⟩, h.st, h.tch, h.low, h.res, h.x0, h.x1, h.i0⟩
end Go.Proofs.YtiodjapdiflphaaGreatDoor
