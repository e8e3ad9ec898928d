/- The truths of a sack: plain facts; states that lie apart from what a round may write. -/
import Derived.Test.YtiodjapdiflphaaGreatDoorWith
namespace Go.Proofs.YtiodjapdiflphaaGreatDoor
open Go.RowKit
/-! ### In plain Lean -/
def truAt (b : Book) (s : Sack) (f : Nat) (x : State) (o : Org) : List State := match nextsOf b s x o with | some y => truthsFrom b s f y | none => []
def shellAt (s : Sack) (i : Nat) : Shell := s.shells.getD i ⟨[], 0⟩
def orgsAt (b : Book) (s : Sack) (x : State) : List Org := originsOf b (shellAt s x.org.length).rings.length
theorem truthsFrom_succ (b : Book) (s : Sack) (f : Nat) (x : State) : truthsFrom b s (f + 1) x = (orgsAt b s x).flatMap (truAt b s f x) := rfl
def truCnt (b : Book) (s : Sack) (f : Nat) (x : State) (i : Nat) : Nat := (((orgsAt b s x).take i).flatMap (truAt b s f x)).length
theorem truCnt_succ {b : Book} {s : Sack} {f : Nat} {x : State} {i : Nat} {o : Org} (h : (orgsAt b s x)[i]? = some o) : truCnt b s f x (i + 1) = truCnt b s f x i + (truAt b s f x o).length := by
 unfold truCnt; rw [List.take_add_one, h]; simp
theorem truCnt_all (b : Book) (s : Sack) (f : Nat) (x : State) : truCnt b s f x (orgsAt b s x).length = (truthsFrom b s (f + 1) x).length := by
 unfold truCnt; rw [List.take_length]; rfl
theorem tru_split {b : Book} {s : Sack} {f : Nat} {x : State} {i : Nat} {o : Org} (h : (orgsAt b s x)[i]? = some o) : ∃ p q, truthsFrom b s (f + 1) x = p ++ truAt b s f x o ++ q ∧ p.length = truCnt b s f x i := by
 obtain ⟨hi, rfl⟩ := List.getElem?_eq_some_iff.1 h
 refine ⟨((orgsAt b s x).take i).flatMap (truAt b s f x), ((orgsAt b s x).drop (i + 1)).flatMap (truAt b s f x), ?_, rfl⟩
 rw [truthsFrom_succ]
 conv => lhs; rw [← List.take_append_drop i (orgsAt b s x), List.drop_eq_getElem_cons hi]
 simp only [List.flatMap_append, List.flatMap_cons, List.append_assoc]
theorem originsOf_mem {b : Book} (hB : BookB b) {n : Nat} (n1 : 1 ≤ n) {o : Org} (h : o ∈ originsOf b n) : ∃ r y : Nat, o = ((r : Int), (y : Int)) ∧ r < b.rivers.length ∧ (y : Int) < b.years ∧ n ≤ y + 1 := by
 unfold originsOf at h
 simp only [List.mem_flatMap, List.mem_map, List.mem_range] at h
 obtain ⟨r, hr, j, hj, rfl⟩ := h
 have := hB.y1
 exact ⟨r, n - 1 + j, rfl, hr, by omega, by omega⟩
/-- What a state holds to that has come about. -/
theorem StateB.begin {b : Book} (hB : BookB b) : StateB b (beginB b) :=
 ⟨by simp [beginB], fun l hl => by simp only [beginB, List.mem_map] at hl; obtain ⟨r, hr, rfl⟩ := hl; exact hB.len r hr, by simp [beginB]⟩
theorem StateB.with {b : Book} {x z : State} {s : Shell} {o : Org} (h : StateB b x) (hl : x.org.length ≤ 50) (hw : withB b x s o = some z) : StateB b z ∧ z.org = x.org ++ [o] := by
 unfold withB at hw
 cases hn : narrowL ((riverOf b o.1).vary + s.off) s.rings (firstY o s) (x.wea.getD o.1.toNat []) with
 | none => rw [hn] at hw; cases hw
 | some row =>
  rw [hn] at hw
  simp only [Option.map_some, Option.some.injEq] at hw
  subst hw
  refine ⟨⟨by simp [h.len], fun l hl' => ?_, by simp; omega⟩, rfl⟩
  rcases List.mem_or_eq_of_mem_set hl' with hm | rfl
  ·exact h.row l hm
  ·have hlen := narrowL_length hn
   by_cases hi : o.1.toNat < x.wea.length
   ·have : x.wea.getD o.1.toNat [] = x.wea[o.1.toNat] := by rw [List.getD_eq_getElem?_getD, List.getElem?_eq_getElem hi]; rfl
    rw [hlen, this]
    exact h.row _ (List.getElem_mem hi)
   ·rw [List.set_eq_of_length_le (by omega)] at hl'
    exact h.row l hl'
theorem nexts_with {b : Book} {s : Sack} {x z : State} {o : Org} (h : nextsOf b s x o = some z) : withB b x (shellAt s x.org.length) o = some z := by
 unfold nextsOf at h; split at h
 ·exact h
 ·cases h
/-! ### States apart from what may be written -/
theorem SpansOff.up {M : Nat → Prop} {w : World} {v : Value} {xss : List (List (Int × Int))} (h : SpansOff M w v xss) (hn : xss ≠ []) (hr : ∀ l, l ∈ xss → l ≠ []) : SpansOff (fun i => M i ∨ w.heap.size ≤ i) w v xss := by
 obtain ⟨vs, h1, h2, h3, h4⟩ := h
 refine ⟨vs, h1, h2, fun a n c hv hM => ?_, fun i x xs hx hxs => ?_⟩
 ·rcases hM with hM | hM
  ·exact h3 a n c hv hM
  ·obtain ⟨a', c', hv', _, _, h5⟩ := RowAt.open h2
   have hl : 0 < vs.length := by rw [h1]; exact List.length_pos_iff.2 hn
   obtain ⟨b, o, ha, hc⟩ := h5 0 vs[0] (by simp [hl])
   rw [hv] at hv'; cases hv'; cases ha
   have := lt_of_cell hc
   simp only at this hM; omega
 ·have h5 := h4 i x xs hx hxs
  refine ⟨h5.1, fun a n c hv hM => ?_⟩
  rcases hM with hM | hM
  ·exact h5.2 a n c hv hM
  ·have := block_lt (hv ▸ h5.1) (hr xs (List.mem_of_getElem? hxs)); omega
theorem PairsOff.up {M : Nat → Prop} {w : World} {v : Value} {xs : List (Int × Int)} (h : PairsOff M w v xs) (hn : xs ≠ []) : PairsOff (fun i => M i ∨ w.heap.size ≤ i) w v xs :=
 ⟨h.1, fun a n c hv hM => by
  rcases hM with hM | hM
  ·exact h.2 a n c hv hM
  ·have := block_lt (hv ▸ h.1) hn; omega⟩
def StIn (O : Nat → Prop) (A : World) (x : State) (v : Value) : Prop := StateOff (fun i => O i ∨ A.heap.size ≤ i) A x v
theorem StIn.step {O O' : Nat → Prop} {A B : World} {x : State} {v : Value} (h : StIn O A x v) (k : Touch O A B) (ho : ∀ i, O' i → O i ∨ A.heap.size ≤ i) : StIn O' B x v :=
 (StateOff.touch h (k.mono (fun i hi => .inl hi))).less (fun i hi => by have := k.size; rcases hi with hi | hi; exact ho i hi; exact .inr (by omega))
theorem StIn.ext {O : Nat → Prop} {A B : World} {x : State} {v : Value} (h : StIn O A x v) (k : Ext A B) : StIn O B x v :=
 (StateOff.ext h k).less (fun i hi => by have := k.size; rcases hi with hi | hi; exact .inl hi; exact .inr (by omega))
theorem StIn.less {O O' : Nat → Prop} {A : World} {x : State} {v : Value} (h : StIn O A x v) (ho : ∀ i, O' i → O i) : StIn O' A x v :=
 StateOff.less h (fun i hi => by rcases hi with hi | hi; exact .inl (ho i hi); exact .inr hi)
theorem pairs_nb (xs : List (Int × Int)) : ∀ u, u ∈ xs.flatMap pairC → NB u := by
 intro u hu
 obtain ⟨x, _, h⟩ := List.mem_flatMap.1 hu
 simp only [pairC, List.mem_cons, List.not_mem_nil, or_false] at h
 rcases h with rfl | rfl <;> exact NB.int _ _
theorem Quiet.pairs {n : Nat} {A B : World} (k : Quiet n A B) {v : Value} {xs : List (Int × Int)} (h : PairsAt A v xs) : PairsAt B v xs := k.row h (pairs_nb xs)
theorem Quiet.spans {n : Nat} {M : Nat → Prop} {A B : World} (k : Quiet n A B) {v : Value} {xss : List (List (Int × Int))} (h : SpansOff M A v xss) : SpansOff M B v xss := by
 obtain ⟨vs, h1, h2, h3, h4⟩ := h
 refine ⟨vs, h1, k.row h2 (fun u hu => ?_), h3, fun i x xs hx hxs => ⟨k.pairs (h4 i x xs hx hxs).1, (h4 i x xs hx hxs).2⟩⟩
 obtain ⟨i, hi, rfl⟩ := List.mem_iff_getElem.1 hu
 obtain ⟨a, c, hv, _⟩ := (h4 i vs[i] (xss[i]'(by omega)) (by simp) (by simp)).1.open
 rw [hv]; exact NB.slice _ _ _
theorem StIn.quiet {O : Nat → Prop} {n : Nat} {A B : World} {x : State} {v : Value} (h : StIn O A x v) (k : Quiet n A B) : StIn O B x v := by
 obtain ⟨ov, wv, h1, h2, h3⟩ := h
 have hs := k.size
 refine StateOff.less (M := fun i => O i ∨ A.heap.size ≤ i) ⟨ov, wv, h1, ⟨k.pairs h2.1, h2.2⟩, k.spans h3⟩ (fun i hi => ?_)
 rcases hi with hi | hi
 ·exact .inl hi
 ·exact .inr (by omega)
theorem StIn.of {b : Book} {O : Nat → Prop} {A : World} {x : State} {v : Value} (hB : BookB b) (hx : StateB b x) (h : StateOff O A x v) (ho : x.org ≠ []) : StIn O A x v := by
 obtain ⟨ov, wv, h1, h2, h3⟩ := h
 refine ⟨ov, wv, h1, h2.up ho, h3.up (fun e => ?_) (fun l hl e => ?_)⟩
 ·have h4 := hx.len; have h5 := hB.n1; rw [e] at h4; simp at h4; omega
 ·have h4 := hx.row l hl; have h5 := hB.y1; rw [e] at h4; simp at h4; omega
theorem StIn.begin {b : Book} {M : Nat → Prop} {A : World} {wv : Value} (hB : BookB b) (h : SpansOff M A wv (b.rivers.map River.grow)) : StIn M A (beginB b) (.agg #[.slice none 0 0, wv]) :=
 ⟨_, _, rfl, ⟨RowAt.nil _, OffV.nil _⟩, h.up (fun e => by have h4 := hB.n1; have := congrArg List.length e; simp at this; rw [this] at h4; simp at h4) (fun l hl e => by
  simp only [List.mem_map] at hl
  obtain ⟨r, hr, rfl⟩ := hl
  have h4 := hB.len r hr; have h5 := hB.y1; rw [e] at h4; simp at h4; omega)⟩
end Go.Proofs.YtiodjapdiflphaaGreatDoor
/- The search of the truths: what it leans on; the leaf. -/
namespace Go.Proofs.YtiodjapdiflphaaGreatDoor
open Go.RowKit
/-- The variables of the search, and what the caller keeps. -/
structure TI (b : Book) (rv sv tv : Value) (w0 : World) (sb yb cb l : Nat) (J : (Nat → Prop) → World → Prop) (O : Nat → Prop) (A : World) : Prop where
 ext : Ext w0 A
 s0 : A.cell? ⟨sb, 0, none⟩ = some (.int .i64 b.years)
 s1 : A.cell? ⟨sb, 1, none⟩ = some rv
 s2 : A.cell? ⟨sb, 2, none⟩ = some sv
 s3 : A.cell? ⟨sb, 3, none⟩ = some tv
 y : A.cell? ⟨yb, 0, none⟩ = some (.func (.yield l) #[] #[])
 c : A.cell? ⟨cb, 0, none⟩ = some (.func (.func 93) #[] #[.pointer (some ⟨sb, 0, none⟩), .pointer (some ⟨yb, 0, none⟩), .pointer (some ⟨cb, 0, none⟩)])
 og : ∀ i, O i → w0.heap.size ≤ i
 olt : ∀ i, O i → i < A.heap.size
 o1 : ¬ O sb
 o2 : ¬ O yb
 o3 : ¬ O cb
 j : J O A
theorem TI.ext' {b : Book} {rv sv tv : Value} {w0 : World} {sb yb cb l n : Nat} {J : (Nat → Prop) → World → Prop} {O : Nat → Prop} {A B : World} (h : TI b rv sv tv w0 sb yb cb l J O A) (hJ : ∀ O, Stable n (J O)) (k : Ext A B) : TI b rv sv tv w0 sb yb cb l J O B :=
 ⟨h.ext.trans k, k.cell h.s0, k.cell h.s1, k.cell h.s2, k.cell h.s3, k.cell h.y, k.cell h.c, h.og, fun i hi => Nat.lt_of_lt_of_le (h.olt i hi) k.size, h.o1, h.o2, h.o3, (hJ O).out' h.j k⟩
theorem TI.quiet {b : Book} {rv sv tv : Value} {w0 : World} {sb yb cb l n : Nat} {J : (Nat → Prop) → World → Prop} {O : Nat → Prop} {A B : World} (h : TI b rv sv tv w0 sb yb cb l J O A) (hJ : ∀ O, Stable n (J O)) (hn : w0.heap.size ≤ n) (k : Quiet n A B) (n1 : NB rv) (n2 : NB sv) (n3 : NB tv) : TI b rv sv tv w0 sb yb cb l J O B :=
 ⟨h.ext.quiet hn k, k.cell h.s0 (NB.int _ _), k.cell h.s1 n1, k.cell h.s2 n2, k.cell h.s3 n3, k.cell h.y (NB.func _ _ _), k.cell h.c (NB.func _ _ _), h.og, fun i hi => Nat.lt_of_lt_of_le (h.olt i hi) k.size, h.o1, h.o2, h.o3, hJ O A B h.j k⟩
theorem TI.post {b : Book} {rv sv tv : Value} {w0 : World} {sb yb cb l : Nat} {J J' : (Nat → Prop) → World → Prop} {O O' : Nat → Prop} {A B : World} (h : TI b rv sv tv w0 sb yb cb l J O A) (k : Touch O A B) (ho : ∀ i, O' i → (O i ∨ A.heap.size ≤ i) ∧ i < B.heap.size) (hj : J' O' B) : TI b rv sv tv w0 sb yb cb l J' O' B := by
 have a1 := lt_of_cell h.s0
 have a2 := lt_of_cell h.y
 have a3 := lt_of_cell h.c
 have a0 := h.ext.size
 exact ⟨k.ext h.ext h.og, k.cell h.s0 h.o1, k.cell h.s1 h.o1, k.cell h.s2 h.o1, k.cell h.s3 h.o1, k.cell h.y h.o2, k.cell h.c h.o3,
  fun i hi => (ho i hi).1.elim (h.og i) (fun hi => by omega), fun i hi => (ho i hi).2, fun hi => (ho _ hi).1.elim h.o1 (fun hi => by simp only at a1; omega), fun hi => (ho _ hi).1.elim h.o2 (fun hi => by simp only at a2; omega), fun hi => (ho _ hi).1.elim h.o3 (fun hi => by simp only at a3; omega), hj⟩
set_option maxRecDepth 100000 in
set_option maxHeartbeats 4000000 in
theorem tru_leaf (b : Book) (s : Sack) (rv tv xv : Value) (sa : Option Addr) (sc : Nat) (w0 : World) (sb yb cb l B0 k : Nat) (J : Nat → (Nat → Prop) → World → Prop) (Jx : World → Prop) (O : Nat → Prop) (x : State) (A : World)
  (hJ : ∀ k O, Stable B0 (J k O)) (hJx : Stable B0 Jx) (hlen : x.org.length = s.shells.length) (hx : StIn O A x xv) (hT : TI b rv (.slice sa s.shells.length sc) tv w0 sb yb cb l (J k) O A) (hAB : B0 ≤ A.heap.size)
  (hY : ∀ v A1, J k O A1 → StIn O A1 x v → B0 ≤ A1.heap.size → (∀ i, O i → i < A1.heap.size) → YieldAt Fence.wide 0 Tryz.prog l #[v] A1 (YRes O (J (k + 1)) Jx A1)) :
  CallsIn Fence.wide 0 Tryz.prog 93 #[xv, .pointer (some ⟨sb, 0, none⟩), .pointer (some ⟨yb, 0, none⟩), .pointer (some ⟨cb, 0, none⟩)] A (YRes O (J (k + 1)) Jx A) := by
 have hx' := hx
 obtain ⟨ov, wv, rfl, ho, ⟨vs, v1, v2, v3, v4⟩⟩ := hx'
 obtain ⟨oa, oc, rfl, o1, o2, _⟩ := ho.1.open
 obtain ⟨wa, wk, rfl, w1, w2, _⟩ := RowAt.open v2
 obtain ⟨Aw, hAw⟩ : ∃ Aw, Aw = (((A.alloc (.cells #[.slice oa x.org.length oc, .slice wa x.wea.length wk] 113)).alloc (.cells #[.bool false] 4)).alloc (.cells #[.int .i64 x.org.length] 3)) := ⟨_, rfl⟩
 have hxa : Ext A Aw := by rw [hAw]; exact (((Ext.refl A).alloc _).alloc _).alloc _
 have hTa := hT.ext' (hJ k) hxa
 obtain ⟨fn, tmps, assign, body, hy, hR⟩ := hY (.agg #[.slice oa x.org.length oc, .slice wa x.wea.length wk]) Aw hTa.j (hx.ext hxa) (Nat.le_trans hAB hxa.size) hTa.olt
 have e1 := hTa.s2
 have e2 := hTa.y
 have hfo : Aw.heap[A.heap.size + 1]? = some (.cells #[.bool false] 4) := by
  rw [hAw]; exact (Below.heap_alloc _ _ _ (by simp)).trans (by have := World.alloc_heap_new (A.alloc (.cells #[.slice oa x.org.length oc, .slice wa x.wea.length wk] 113)) (.cells #[.bool false] 4); rwa [World.size_alloc] at this)
 have f1 : Aw.cell? ⟨A.heap.size + 1, 0, none⟩ = some (.bool false) := by rw [hAw]; go_simp
 have f2 : Aw.frozen? ⟨A.heap.size + 1, 0, none⟩ = false := by rw [hAw]; go_simp
 have t1 : (x.org.length == s.shells.length) = true := by simpa using hlen
 have t2 : ((x.org.length : Int) == (s.shells.length : Int)) = true := by rw [beq_iff_eq]; omega
 have HOL := Lib.hid hT.olt
 have HJ := Lib.hid hJ
 have HJX := Lib.hid hJx
 have HXA := Lib.hid hxa
 clear hY v4 v2 v3 ho hx hT hTa hlen hxa hJ hJx
 refine callsIn_wide.2 ?_
 go_enter Tryz.func93, Tryz.ntmps93
 go_upto_region 2 with fail
 rw [← hAw]
 have b0 : Aw.cell? ⟨A.heap.size, 0, none⟩ = some (.slice oa x.org.length oc) ∧ Aw.cell? ⟨A.heap.size, 1, none⟩ = some (.slice wa x.wea.length wk) ∧ Aw.cell? ⟨A.heap.size + 2, 0, none⟩ = some (.int .i64 x.org.length) := by rw [hAw]; exact ⟨by go_simp, by go_simp, by go_simp⟩
 obtain ⟨b0, b1, b2⟩ := b0
 clear hAw
 go_upto_region 3 with fail
 refine (wpIn_wide (n := 0)).1 ?_
 gi_wp2_with (refine RoundIn.mono hR ?_; rintro e w2 ⟨b', O', rfl, ht, hpost⟩; have g1 := ht.cell f1 (fun h => by have := HOL.out _ h; simp only at this; omega); have g2 := (ht.frozen f1 (fun h => by have := HOL.out _ h; simp only at this; omega)).trans f2)
 have HP := Lib.hid hpost
 have hb2 := (ht.keep (A.heap.size + 1) _ hfo (fun h => by have := HOL.out _ h; omega))
 clear hpost
 go_wp2
 have hq := Quiet.setBool (n := B0) (y := b') hb2 (by omega)
 have hs : (w2.setCell ⟨A.heap.size + 1, 0, none⟩ (.bool b')).heap.size = w2.heap.size := by simp [World.setCell]
 refine bodyPost_ret (v := .bool b') (by simp [results, Tryz.results93, go_sem, *]) rfl ⟨b', O', rfl, ?_, fun i hi => ?_, fun h => HJ.out _ _ _ _ (HP.out.2.1 h) hq, fun h => HJX.out _ _ (HP.out.2.2 h) hq⟩
 ·exact Touch.of_new ((Touch.trans (Touch.of_ext HXA.out) ((ht.mono (fun i hi => .inl hi)).trans (Touch.setCell (M := fun i => O i ∨ i = A.heap.size + 1) _ (.inr rfl))))) (fun i hi hl => hi.elim id (fun h => by omega))
 ·rw [hs]
  have h1 := HP.out.1 i hi
  have h2 := HXA.out.size
  exact ⟨h1.1.imp id (fun h => by omega), h1.2⟩
end Go.Proofs.YtiodjapdiflphaaGreatDoor
