/- The orders of houses, and the best of some things, in plain Lean. -/
import Derived.Test.YtbeophjdiddomaaGreatDoorRoadsb
import Derived.Test.YtbeophjdiddomaaGreatDoorRange
import Derived.RangeFuncBound
import Derived.RangeFuncCalls
import Derived.Shelf.RegionOpen
import Derived.OwnWalkIn
import Derived.TacticsInMore
import Derived.LoopNIn
import Derived.LoopIn
import Derived.Deep.RegionHeld3
import Derived.Deep.Cut
import Derived.Deep.CutBlock
import Derived.Deep.DeepCutAuto
import Derived.Deep.QuietTactic
import Derived.BigQuiet
import Derived.Laws.EntriesVeiled
namespace Go.Proofs.YtbeophjdiddomaaGreatDoor

/-- All lists that go on from now by numbers of hs that are not there yet, f more of them, in the order of the search. -/
def ordersFrom (hs : List Int) : Nat → List Int → List (List Int)
  | 0, now => [now]
  | f + 1, now => hs.flatMap fun n => if n ∈ now then [] else ordersFrom hs f (now ++ [n])
def ordersOf (hs : List Int) : List (List Int) := ordersFrom hs hs.length []

theorem ordersFrom_mem {hs : List Int} : ∀ {f : Nat} {now l : List Int}, l ∈ ordersFrom hs f now → (∀ n, n ∈ now → n ∈ hs) → now.Nodup → (∀ n, n ∈ l → n ∈ hs) ∧ l.Nodup ∧ l.length = now.length + f
  | 0, now, l, h, hn, hd => by simp [ordersFrom] at h; subst h; exact ⟨hn, hd, rfl⟩
  | f + 1, now, l, h, hn, hd => by
    simp only [ordersFrom, List.mem_flatMap] at h
    obtain ⟨n, hmem, h⟩ := h
    split at h
    · simp at h
    · rename_i hnn
      have := ordersFrom_mem h (fun m hm => by
        rcases List.mem_append.1 hm with hm | hm
        · exact hn m hm
        · simp at hm; subst hm; exact hmem) (by
        rw [List.nodup_append]; refine ⟨hd, by simp, ?_⟩
        intro a ha b hb; simp at hb; subst hb; exact fun e => hnn (e ▸ ha))
      obtain ⟨a, b, c⟩ := this
      exact ⟨a, b, by rw [c]; simp; omega⟩
end Go.Proofs.YtbeophjdiddomaaGreatDoor

/- The contract of the iterator over the orders of houses. -/
namespace Go.Proofs.YtbeophjdiddomaaGreatDoor
open Go.RowKit

/-- A slice of integers whose array lies outside M. -/
def IntsOff (M : Nat → Prop) (w : World) (v : Value) (xs : List Int) : Prop := IntsAt w v xs ∧ ∀ a n c, v = .slice (some a) n c → ¬ M a.block
theorem IntsOff.touch {M : Nat → Prop} {A B : World} {v : Value} {xs : List Int} (h : IntsOff M A v xs) (k : Touch M A B) : IntsOff M B v xs := by
  obtain ⟨⟨a, c, rfl, h1, h2, h0, h3⟩, h4⟩ := h
  exact ⟨⟨a, c, rfl, h1, h2, h0, fun j u hj => by
    obtain ⟨b, o, rfl, hc⟩ := h3 j u hj
    exact ⟨b, o, rfl, k.cell hc (h4 ⟨b, o, none⟩ _ _ rfl)⟩⟩, h4⟩
theorem IntsOff.nil (M : Nat → Prop) (w : World) : IntsOff M w (.slice none 0 0) [] := ⟨IntsAt.nil w, fun a n c h => by cases h⟩

/-- What an order looks like as a value. -/
def tourEn (c : Roads) (M : Nat → Prop) (A : World) (x : List Int) (v : Value) : Prop := ∃ nv, v = .agg #[nv, .int .i64 (lengthOf c x)] ∧ IntsOff M A nv x

/-- The variables that the search of the orders leans on. -/
structure OrdEnv (c : Roads) (hs : List Int) (w0 : World) (hb yb cb sb l : Nat) (hv lv fv : Value) (A : World) : Prop where
  ext : Ext w0 A
  h : A.cell? ⟨hb, 0, none⟩ = some hv
  y : A.cell? ⟨yb, 0, none⟩ = some (.func (.yield l) #[] #[])
  c0 : A.cell? ⟨cb, 0, none⟩ = some lv
  c1 : A.cell? ⟨cb, 1, none⟩ = some (.int .i64 c.bears)
  c2 : A.cell? ⟨cb, 2, none⟩ = some fv
  s : A.cell? ⟨sb, 0, none⟩ = some (.func (.func 121) #[] #[.pointer (some ⟨hb, 0, none⟩), .pointer (some ⟨yb, 0, none⟩), .pointer (some ⟨cb, 0, none⟩), .pointer (some ⟨sb, 0, none⟩)])
theorem OrdEnv.touch {c : Roads} {hs : List Int} {w0 : World} {hb yb cb sb l : Nat} {hv lv fv : Value} {A B : World} {M : Nat → Prop} (h : OrdEnv c hs w0 hb yb cb sb l hv lv fv A) (k : Touch M A B)
    (m : ∀ i, M i → w0.heap.size ≤ i) (m1 : ¬ M hb) (m2 : ¬ M yb) (m3 : ¬ M cb) (m4 : ¬ M sb) : OrdEnv c hs w0 hb yb cb sb l hv lv fv B :=
  ⟨k.ext h.ext m, k.cell h.h m1, k.cell h.y m2, k.cell h.c0 m3, k.cell h.c1 m3, k.cell h.c2 m3, k.cell h.s m4⟩

theorem Stable.out' {n : Nat} {J : World → Prop} (h : Stable n J) {A B : World} (hj : J A) (hx : Ext A B) : J B := h A B hj (Quiet.of_ext hx)
def OrdPost (M : Nat → Prop) (J : Nat → World → Prop) (Jx : World → Prop) (k n : Nat) (A : World) (e : Ending) (w' : World) : Prop :=
  YRes M (J (k + n)) Jx A e w'

theorem length_ok (v hv : Value) (c : Roads) (l : List Int) (w : World) (hb : RoadsB c) (hc : RoadsAt w v c) (hl : IntsAt w hv l) (hs : ∀ n, n ∈ l → 1 ≤ n ∧ n ≤ c.loads.length) (hlen : l.length ≤ 1000) (hld : loadOf c l ≤ c.bears) :
    Calls Tryz.prog 122 #[v, hv] w fun e w' => e = .returned (.int .i64 (lengthOf c l)) ∧ Ext w w' := by
  refine (length_any v hv c l w hb hc hl hs hlen).mono fun e w' h => ?_
  have h1 := h.1
  rw [if_neg (by omega)] at h1
  exact ⟨h1, h.2⟩

set_option maxRecDepth 100000 in
set_option maxHeartbeats 2000000 in
/-- The leaf: the order is whole. -/
theorem ord_leaf (c : Roads) (hs : List Int) (w0 : World) (hb yb cb sb l : Nat) (hv lv fv nowv : Value) (now : List Int) (A : World) (M : Nat → Prop) (J : Nat → World → Prop) (Jx : World → Prop) (k B0 : Nat)
    (hB : RoadsB c) (hR : RoadsAt w0 (.agg #[lv, .int .i64 c.bears, fv]) c) (hH : IntsAt w0 hv hs) (hE : OrdEnv c hs w0 hb yb cb sb l hv lv fv A) (hN : IntsOff (· < B0) A nowv now) (hlen : now.length = hs.length) (hl0 : hs.length ≤ 1000)
    (hst : ∀ n, n ∈ now → 1 ≤ n ∧ n ≤ c.loads.length) (hld : loadOf c now ≤ c.bears) (hJ : ∀ k, Stable B0 (J k)) (hAB : B0 ≤ A.heap.size)
    (hY : ∀ v A1, J k A1 → tourEn c (· < B0) A1 now v → B0 ≤ A1.heap.size → YieldAt Fence.wide 0 Tryz.prog l #[v] A1 (YRes M (J (k + 1)) Jx A1))
    (h0 : J k A) :
    CallsIn Fence.wide 0 Tryz.prog 121 #[nowv, .pointer (some ⟨hb, 0, none⟩), .pointer (some ⟨yb, 0, none⟩), .pointer (some ⟨cb, 0, none⟩), .pointer (some ⟨sb, 0, none⟩)] A (OrdPost M J Jx k 1 A) := by
  have hcall := fun w1 (hx : Ext A w1) => length_ok (.agg #[lv, .int .i64 c.bears, fv]) nowv c now w1 hB ((hR.ext hE.ext).ext hx) (hN.1.ext hx) hst (by omega) hld
  obtain ⟨a, k1, rfl, h1, h2, _⟩ := hN.1.open
  obtain ⟨a', k1', rfl, h1', h2', _⟩ := (hH.ext hE.ext).open
  have e1 := hE.h
  have e2 := hE.y
  have e3 := hE.c0
  have e4 := hE.c1
  have e5 := hE.c2
  have t1 : (now.length == hs.length) = true := by simpa using hlen
  have t2 : ((now.length : Int) == (hs.length : Int)) = true := by rw [beq_iff_eq]; omega
  have HC := Lib.hid hcall
  have HL := Lib.hid hlen
  clear hcall hlen
  have hmix : Tryz.prog.follows .mixedOrders = true := by kernel_rfl
  refine callsIn_of_wp Tryz.func121 rfl trivial ?_ rfl
  simp only [Tryz.ntmps121, List.size_toArray, List.length_cons, List.length_nil, Nat.reduceAdd, Nat.reduceSub, Array.replicate_succ, Array.replicate_zero, List.push_toArray, List.append_toArray, List.nil_append, List.cons_append]
  gi_wp2
  have HY := Lib.hid hY
  have HJ := Lib.hid hJ
  clear hY hJ
  gi_region_with_o (first | (gi_at_call 122; refine (callsIn_wide.2 (HC.out _ (by first | exact (Ext.refl A).drew | exact Ext.refl A))).mono ?_; rintro e w1 ⟨rfl, hx1⟩; have hx2 := Ext.trans ((Ext.refl A).drew) hx1; have e2w := hx2.cell e2; obtain ⟨fn, tmps, assign, body, hy, hR⟩ := HY.out (.agg #[.slice a now.length k1, .int .i64 (lengthOf c now)]) w1 (HJ.out k A w1 h0 (Quiet.of_ext hx2)) ⟨_, rfl, hN.touch (Touch.of_ext hx2)⟩ (Nat.le_trans hAB hx2.size)) | (refine RoundIn.mono hR ?_; rintro e w2 ⟨b, rfl, hpost⟩))
  all_goals gi_wp2
  all_goals go_ret
  all_goals exact ⟨b, rfl, (Touch.of_ext hx2).trans hpost.1, hpost.2.1, hpost.2.2⟩

/-- How many orders the first i numbers of a node lead to. -/
def ordCnt (hs : List Int) (f : Nat) (now : List Int) (i : Nat) : Nat := ((hs.take i).flatMap fun n => if n ∈ now then [] else ordersFrom hs f (now ++ [n])).length
theorem ordCnt_succ {hs : List Int} {f : Nat} {now : List Int} {i : Nat} {n : Int} (h : hs[i]? = some n) : ordCnt hs f now (i + 1) = ordCnt hs f now i + (if n ∈ now then 0 else (ordersFrom hs f (now ++ [n])).length) := by
  unfold ordCnt; rw [List.take_add_one, h]; simp only [Option.toList_some, List.flatMap_append, List.flatMap_cons, List.flatMap_nil, List.append_nil, List.length_append]
  split <;> simp
theorem ordCnt_all {hs : List Int} {f : Nat} {now : List Int} {i : Nat} (h : hs.length ≤ i) : ordCnt hs f now i = (ordersFrom hs (f + 1) now).length := by
  show _ = (hs.flatMap fun n => if n ∈ now then [] else ordersFrom hs f (now ++ [n])).length
  unfold ordCnt; rw [List.take_of_length_le h]
theorem flatMap_split {α β : Type} (g : α → List β) {hs : List α} {i : Nat} (hi : i < hs.length) : hs.flatMap g = (hs.take i).flatMap g ++ g hs[i] ++ (hs.drop (i + 1)).flatMap g := by
  conv => lhs; rw [← List.take_append_drop i hs, List.drop_eq_getElem_cons hi]
  simp only [List.flatMap_append, List.flatMap_cons, List.append_assoc]
theorem ord_split {hs : List Int} {f : Nat} {now : List Int} {i : Nat} {n : Int} (h : hs[i]? = some n) (hn : n ∉ now) :
    ∃ p s, ordersFrom hs (f + 1) now = p ++ ordersFrom hs f (now ++ [n]) ++ s ∧ p.length = ordCnt hs f now i := by
  obtain ⟨hi, rfl⟩ := List.getElem?_eq_some_iff.1 h
  refine ⟨(hs.take i).flatMap fun n => if n ∈ now then [] else ordersFrom hs f (now ++ [n]), (hs.drop (i + 1)).flatMap fun n => if n ∈ now then [] else ordersFrom hs f (now ++ [n]), ?_, rfl⟩
  show (hs.flatMap fun n => if n ∈ now then [] else ordersFrom hs f (now ++ [n])) = _
  rw [flatMap_split _ hi, if_neg hn]

theorem row_push {W : World} {B0 : Nat} {base : Nat} (hb : B0 ≤ base) {v : Value} {xs : List Int} {n : Int} (h : W.ownsRow base 3 1 v (xs.length + 1) (xs.map (.int .i64) ++ [.int .i64 n])) : IntsOff (· < B0) W v (xs ++ [n]) := by
  have h' : W.ownsRow base 3 1 v (xs ++ [n]).length ((xs ++ [n]).map (.int .i64)) := by simpa using h
  refine ⟨IntsAt.of_owns h', fun a m c hv hm => ?_⟩
  have h1 : a.block < B0 := hm
  have := owns_block h' a.block (by rw [hv]; rfl)
  omega
theorem small_len {n : Nat} (h : n ≤ 1000) : n + 1 ≤ maxLen ∧ (n + 1) * 8 ≤ 140737488355328 := by unfold maxLen; omega

end Go.Proofs.YtbeophjdiddomaaGreatDoor

/- The search of the orders of houses: a node, and the whole. -/
namespace Go.Proofs.YtbeophjdiddomaaGreatDoor
open Go.RowKit

set_option maxRecDepth 100000 in
set_option maxHeartbeats 4000000 in
/-- A node: the order is not whole yet. -/
theorem ord_node (c : Roads) (hs : List Int) (w0 : World) (hb yb cb sb l : Nat) (hv lv fv nowv : Value) (now : List Int) (A : World) (M : Nat → Prop) (J : Nat → World → Prop) (Jx : World → Prop) (k B0 f : Nat)
    (hH : IntsAt w0 hv hs) (hE : OrdEnv c hs w0 hb yb cb sb l hv lv fv A) (hN : IntsOff (· < B0) A nowv now) (hlen : now.length + (f + 1) = hs.length) (hl0 : hs.length ≤ 1000)
    (hJ : ∀ k, Stable B0 (J k)) (hAB : B0 ≤ A.heap.size) (hM : ∀ i, M i → w0.heap.size ≤ i ∧ i < B0) (m1 : ¬ M hb) (m2 : ¬ M yb) (m3 : ¬ M cb) (m4 : ¬ M sb)
    (ih : ∀ n nowv' A' k', n ∈ hs → n ∉ now → IntsOff (· < B0) A' nowv' (now ++ [n]) → OrdEnv c hs w0 hb yb cb sb l hv lv fv A' → J k' A' → B0 ≤ A'.heap.size → (∃ i, hs[i]? = some n ∧ k' = k + ordCnt hs f now i) →
      Calls Tryz.prog 121 #[nowv', .pointer (some ⟨hb, 0, none⟩), .pointer (some ⟨yb, 0, none⟩), .pointer (some ⟨cb, 0, none⟩), .pointer (some ⟨sb, 0, none⟩)] A' (OrdPost M J Jx k' (ordersFrom hs f (now ++ [n])).length A'))
    (h0 : J k A) :
    Calls Tryz.prog 121 #[nowv, .pointer (some ⟨hb, 0, none⟩), .pointer (some ⟨yb, 0, none⟩), .pointer (some ⟨cb, 0, none⟩), .pointer (some ⟨sb, 0, none⟩)] A (OrdPost M J Jx k (ordersFrom hs (f + 1) now).length A) := by
  obtain ⟨a, k1, rfl, h1, h2, _⟩ := hN.1.open
  obtain ⟨a', k1', rfl, h1', h2', h3'⟩ := hH.open
  have e1 := hE.h
  have t1 : (now.length == hs.length) = false := by rw [beq_eq_false_iff_ne]; omega
  have t2 : ((now.length : Int) == (hs.length : Int)) = false := by rw [beq_eq_false_iff_ne]; omega
  have hmix : Tryz.prog.follows .mixedOrders = true := by kernel_rfl
  have HJ := Lib.hid hJ
  have HI := Lib.hid ih
  have HLE := Lib.hid hlen
  have HM := Lib.hid hM
  clear hJ ih hlen hM
  go_enter Tryz.func121, Tryz.ntmps121
  go_wp2
  clear t1 t2
  go_loopw [23] (fun i wr => ∃ (j : Nat), j ≤ hs.length ∧ i = .int .i64 j ∧ J (k + ordCnt hs f now j) wr ∧ Touch M A wr) (fun i _ => hs.length - (intOf i).toNat)
  case atStart => exact ⟨0, Nat.zero_le _, rfl, by simpa [ordCnt] using h0, Touch.refl _ _⟩
  case round =>
    obtain ⟨j, hj, rfl, hJw, ht⟩ := hrel
    have hEw := hE.touch ht (fun i hi => (HM.out i hi).1) m1 m2 m3 m4
    have hNw := hN.touch (ht.mono (fun i hi => (HM.out i hi).2))
    by_cases hlt : j < hs.length
    · obtain ⟨b, o, n, rfl, hnk, hc⟩ := h3' j hlt
      have hd := hEw.ext.cell hc
      have e1w := hEw.h
      have e2w := hEw.s
      have HS := Lib.hid (ordCnt_succ (f := f) (now := now) hnk.out)
      clear hc h3' e1
      by_cases hmem : n ∈ now
      · have hdec : decide (n ∈ now) = true := by simpa using hmem
        have HCt := Lib.hid (fun w1 (hx : Ext wr w1) => Calls.mono (contains_any (.slice a now.length k1) now n w1 (hNw.1.ext hx)) (R' := fun e w' => e = .returned (.bool true) ∧ w' = w1) (fun e w' h => ⟨by rw [h.1, hdec], h.2.symm⟩))
        clear hNw
        go_upto_region 6 with fail
        go_quiet ((go_at_call 123; exact Calls.quiet_of_same (HCt.out _ ((Ext.refl wr).drewN _))))
        go_wp2
        go_roundw
        case rel => exact ⟨j + 1, by omega, by go_num, by rw [HS.out, if_pos hmem, Nat.add_zero]; exact (HJ.out _).out' hJw ((Ext.refl wr).drewN _), ht.trans (Touch.of_ext ((Ext.refl wr).drewN _))⟩
        case measure => (simp [intOf]; omega)
      · have HCt := Lib.hid (fun w1 (hx : Ext wr w1) => contains_any (.slice a now.length k1) now n w1 (hNw.1.ext hx))
        have HCl := Lib.hid (fun w1 (hx : Ext wr w1) => clone_any (.slice a now.length k1) now w1 (hNw.1.ext hx) (by have := HLE.out; omega))
        have HSm := Lib.hid (small_len (n := now.length) (by have := HLE.out; omega))
        have hdec : decide (n ∈ now) = false := by simpa using hmem
        have hwsz : wr.drew.heap.size = wr.heap.size := rfl
        clear hNw
        go_upto_region 6 with fail
        go_region_held3 (fun w' => w'.cell? ⟨sb, 0, none⟩ = some (.func (.func 121) #[] #[.pointer (some ⟨hb, 0, none⟩), .pointer (some ⟨yb, 0, none⟩), .pointer (some ⟨cb, 0, none⟩), .pointer (some ⟨sb, 0, none⟩)])) (first | go_keep | exact (((Ext.refl wr).drew).alloc _).cell e2w | exact (hxa.alloc _).cell e2w)
          (first
            | (go_at_call 123; refine (HCt.out _ (by first | exact (Ext.refl wr).drew | exact Ext.refl wr)).mono ?_; rintro e w1 ⟨rfl, rfl⟩)
            | (go_at_call 78; refine (HCl.out _ (by first | exact (Ext.refl wr).drew | exact ((Ext.refl wr).drew).alloc _)).mono ?_; rintro e w1 ⟨v1, rfl, hown1, hx1⟩; have hxa : Ext wr w1 := Ext.trans (by first | exact (Ext.refl wr).drew | exact ((Ext.refl wr).drew).alloc _) hx1; have e3w := hxa.cell e2w)
            | (refine step_append_row E_ints (by rfl) _ _ (by rfl) _ (by rfl) (hown1.alloc (Obj.cells #[.int .i64 n] 3)) (by rfl) (RowAt.new1 w1 #[.int .i64 n] 3) (by rfl) (by simp [Value.oneCell']) HSm.out.1 HSm.out.2 (Nat.le_trans hx1.size ((Ext.refl w1).alloc _).size) ?_; intro v2 w2 hown2 hgrow _; have hx2 : Ext wr w2 := (hxa.alloc _).grown hgrow (fun g hg => Nat.le_trans (Nat.le_refl _) (owns_block hown1 g hg)); have e4w := hx2.cell e2w; have hrow := row_push (Nat.le_trans hAB ht.size) hown2)
            | (refine step_append_row E_ints (by rfl) _ _ (by rfl) _ (by rfl) hown1 (by rfl) ((RowAt.new1 wr.drew #[.int .i64 n] 3).ext hx1) (by rfl) (by simp [Value.oneCell']) HSm.out.1 HSm.out.2 hx1.size ?_; intro v2 w2 hown2 hgrow _; have hx2 : Ext wr w2 := hxa.grown hgrow (fun g hg => Nat.le_trans (((Ext.refl wr).drew).alloc _).size (owns_block hown1 g hg)); have e4w := hx2.cell e2w; have hrow := row_push (Nat.le_trans (Nat.le_trans hAB ht.size) (((Ext.refl wr).drew).alloc _).size) hown2)
            | (go_at_call 121; have hT := Touch.trans ht (Touch.of_ext (M := M) hx2); refine (HI.out n v2 w2 _ (List.mem_of_getElem? hnk.out) hmem hrow (hE.touch hT (fun i hi => (HM.out i hi).1) m1 m2 m3 m4) ((HJ.out _).out' hJw hx2) (Nat.le_trans hAB hT.size) ⟨j, hnk.out, rfl⟩).mono ?_; rintro e w4 ⟨b', rfl, ht4, hj4, hx4⟩; have e5w := ht4.cell e4w m4))
        all_goals cases b'
        all_goals go_wp2
        all_goals first
          | (go_roundw
             case rel => exact ⟨j + 1, by omega, by go_num, by have h := hj4 rfl; rw [HS.out, if_neg hmem]; rw [Nat.add_assoc] at h; exact h, hT.trans ht4⟩
             case measure => simp [intOf]; omega)
          | (go_ret; exact ⟨false, rfl, hT.trans ht4, (fun h => by cases h), fun _ => by simpa using hx4⟩)
    · have hfin : OrdPost M J Jx k (ordersFrom hs (f + 1) now).length A (.returned (.bool true)) wr := ⟨true, rfl, ht, fun _ => by rw [← ordCnt_all (i := j) (by omega)]; exact hJw, fun h => by cases h⟩
      have HF := Lib.hid hfin
      clear hfin
      go_wp2
      go_ret
      exact HF.out

theorem wide_of {f : Nat} {args : Array Value} {w : World} {R : Ending → World → Prop} (h : Calls Tryz.prog f args w R) : CallsIn Fence.wide 0 Tryz.prog f args w R := callsIn_wide.2 h

/-- The whole search: from an order begun, with f houses left. -/
theorem ord_all (c : Roads) (hs : List Int) (w0 : World) (hb yb cb sb l : Nat) (hv lv fv : Value) (M : Nat → Prop) (J : Nat → World → Prop) (Jx : World → Prop) (B0 : Nat) (XS : List (List Int))
    (hB : RoadsB c) (hR : RoadsAt w0 (.agg #[lv, .int .i64 c.bears, fv]) c) (hH : IntsAt w0 hv hs) (hl0 : hs.length ≤ 1000)
    (hst : ∀ n, n ∈ hs → 1 ≤ n ∧ n ≤ c.loads.length) (hld : ∀ x, x ∈ XS → loadOf c x ≤ c.bears) (hJ : ∀ k, Stable B0 (J k))
    (hM : ∀ i, M i → w0.heap.size ≤ i ∧ i < B0) (m1 : ¬ M hb) (m2 : ¬ M yb) (m3 : ¬ M cb) (m4 : ¬ M sb)
    (hY : ∀ i x v A1, XS[i]? = some x → J i A1 → tourEn c (· < B0) A1 x v → B0 ≤ A1.heap.size → YieldAt Fence.wide 0 Tryz.prog l #[v] A1 (YRes M (J (i + 1)) Jx A1)) :
    ∀ f now nowv A k, now.length + f = hs.length → (∀ n, n ∈ now → n ∈ hs) → IntsOff (· < B0) A nowv now → OrdEnv c hs w0 hb yb cb sb l hv lv fv A → B0 ≤ A.heap.size → J k A →
      (∃ p s, XS = p ++ ordersFrom hs f now ++ s ∧ p.length = k) →
      Calls Tryz.prog 121 #[nowv, .pointer (some ⟨hb, 0, none⟩), .pointer (some ⟨yb, 0, none⟩), .pointer (some ⟨cb, 0, none⟩), .pointer (some ⟨sb, 0, none⟩)] A (OrdPost M J Jx k (ordersFrom hs f now).length A) := by
  intro f
  induction f with
  | zero =>
    intro now nowv A k hlen hmem hN hE hAB h0 ⟨p, s, hXS, hp⟩
    have hx : XS[k]? = some now := by
      rw [hXS, ← hp, show ordersFrom hs 0 now = [now] from rfl]; simp
    refine callsIn_wide.1 (ord_leaf c hs w0 hb yb cb sb l hv lv fv nowv now A M J Jx k B0 hB hR hH hE hN hlen hl0 (fun n hn => hst n (hmem n hn)) (hld now (List.mem_of_getElem? hx)) hJ hAB ?_ h0)
    exact fun v A1 hj ht hs => hY k now v A1 hx hj ht hs
  | succ f ih =>
    intro now nowv A k hlen hmem hN hE hAB h0 ⟨p, s, hXS, hp⟩
    refine ord_node c hs w0 hb yb cb sb l hv lv fv nowv now A M J Jx k B0 f hH hE hN hlen hl0 hJ hAB hM m1 m2 m3 m4 ?_ h0
    intro n nowv' A' k' hn hnn hN' hE' hj hA' ⟨i, hi, hk'⟩
    obtain ⟨p', s', h1, h2⟩ := ord_split (f := f) hi hnn
    refine ih (now ++ [n]) nowv' A' k' (by simp; omega) (fun m hm => ?_) hN' hE' hA' hj ⟨p ++ p', s' ++ s, ?_, by simp; omega⟩
    · rcases List.mem_append.1 hm with h | h
      · exact hmem m h
      · rw [List.mem_singleton.1 h]; exact hn
    · rw [hXS, h1]; simp only [List.append_assoc]

set_option maxRecDepth 100000 in
set_option maxHeartbeats 2000000 in
/-- **The iterator over the orders of houses.** -/
theorem orders_iter (c : Roads) (hs : List Int) (w0 W : World) (hb cb : Nat) (hv lv fv : Value) (M : Nat → Prop)
    (hB : RoadsB c) (hR : RoadsAt w0 (.agg #[lv, .int .i64 c.bears, fv]) c) (hH : IntsAt w0 hv hs) (hl0 : hs.length ≤ 1000)
    (hst : ∀ n, n ∈ hs → 1 ≤ n ∧ n ≤ c.loads.length) (hld : ∀ x, x ∈ ordersOf hs → loadOf c x ≤ c.bears)
    (hM : ∀ i, M i → w0.heap.size ≤ i ∧ i < W.heap.size) (m1 : ¬ M hb) (m3 : ¬ M cb) (hx : Ext w0 W)
    (e1 : W.cell? ⟨hb, 0, none⟩ = some hv) (c0 : W.cell? ⟨cb, 0, none⟩ = some lv) (c1 : W.cell? ⟨cb, 1, none⟩ = some (.int .i64 c.bears)) (c2 : W.cell? ⟨cb, 2, none⟩ = some fv) :
    Iter Tryz.prog 120 #[.pointer (some ⟨hb, 0, none⟩), .pointer (some ⟨cb, 0, none⟩)] (tourEn c (· < W.heap.size)) (ordersOf hs) M W := by
  intro l J Jx hJ hJx hY h0
  have hmix : Tryz.prog.follows .mixedOrders = true := by kernel_rfl
  have HA := Lib.hid (ord_all c hs w0 hb W.heap.size cb (W.heap.size + 1) l hv lv fv M J Jx W.heap.size (ordersOf hs) hB hR hH hl0 hst hld hJ hM m1 (fun h => by have := (hM _ h).2; omega) m3 (fun h => by have := (hM _ h).2; omega)
    (fun i x v A1 hx hj ht hs => hY i x v A1 hj hx ht hs))
  have HJ := Lib.hid hJ
  clear hY hJ
  refine callsIn_of_wp Tryz.func120 rfl trivial ?_ rfl
  simp only [Tryz.ntmps120, List.size_toArray, List.length_cons, List.length_nil, Nat.reduceAdd, Nat.reduceSub, Array.replicate_succ, Array.replicate_zero, List.push_toArray, List.append_toArray, List.nil_append, List.cons_append]
  gi_wp2
  refine (wide_of (HA.out hs.length [] _ _ 0 (by simp) (by simp) (IntsOff.nil _ _) ⟨hx.trans (((Ext.refl W).alloc _).alloc _), (((Ext.refl W).alloc _).alloc _).cell e1, by go_simp, (((Ext.refl W).alloc _).alloc _).cell c0, (((Ext.refl W).alloc _).alloc _).cell c1, (((Ext.refl W).alloc _).alloc _).cell c2, by go_simp⟩ (((Ext.refl W).alloc _).alloc _).size ((HJ.out 0).out' h0 (((Ext.refl W).alloc _).alloc _)) ⟨[], [], by simp [ordersOf], rfl⟩)).mono ?_
  rintro e w1 ⟨b, rfl, ht, hj, hjx⟩
  gi_wp2
  go_end0
  refine ⟨⟨_, rfl⟩, ?_⟩
  cases b
  · exact .inr (hjx rfl)
  · exact .inl (by have := hj rfl; rwa [Nat.zero_add] at this)
end Go.Proofs.YtbeophjdiddomaaGreatDoor
