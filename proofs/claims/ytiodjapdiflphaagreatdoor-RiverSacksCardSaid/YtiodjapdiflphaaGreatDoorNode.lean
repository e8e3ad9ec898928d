/- The search of the truths: a node. -/
import Derived.Test.YtiodjapdiflphaaGreatDoorRound
import Derived.Sort.CutIn
namespace Go.Proofs.YtiodjapdiflphaaGreatDoor
open Go.RowKit
attribute [local go_sem] Oper.semAt_some
theorem with_cases {b : Book} {x : State} {s : Shell} {o : Org} {M : Nat → Prop} {is : Bool} {w' : World} {v : Value}
  (h : match withB b x s o with
  | some z => is = true ∧ StateOff M w' z v
  | none => is = false) : (is = false ∧ withB b x s o = none) ∨ (is = true ∧ ∃ z, withB b x s o = some z ∧ StateOff M w' z v) := by
 cases hw : withB b x s o with
 | none => rw [hw] at h; exact .inl ⟨h, rfl⟩
 | some z => rw [hw] at h; exact .inr ⟨h.1, z, rfl, h.2⟩
theorem box_cell {w : World} {b : Nat} {v : Value} {t : TypeId} (h : w.heap[b]? = some (.cells #[v] t)) : w.cell? ⟨b, 0, none⟩ = some v ∧ w.frozen? ⟨b, 0, none⟩ = false := by
 unfold World.cell? World.frozen?
 simp only [h]
 simp
theorem truAt_no {b : Book} {s : Sack} {f : Nat} {x : State} {o : Org} (h : nextsOf b s x o = none) : truAt b s f x o = [] := by unfold truAt; rw [h]
theorem truAt_yes {b : Book} {s : Sack} {f : Nat} {x z : State} {o : Org} (h : nextsOf b s x o = some z) : truAt b s f x o = truthsFrom b s f z := by unfold truAt; rw [h]
/-- What the search does at a state with f shells left. -/
def TruCall (b : Book) (s : Sack) (rv sv tv : Value) (w0 : World) (sb yb cb l B0 : Nat) (Jx : World → Prop) (f : Nat) : Prop :=
 ∀ (k : Nat) (J : Nat → (Nat → Prop) → World → Prop) (O : Nat → Prop) (x : State) (xv : Value) (A : World), (∀ k O, Stable B0 (J k O)) → StateB b x → x.org.length + f = s.shells.length → StIn O A x xv → TI b rv sv tv w0 sb yb cb l (J k) O A → B0 ≤ A.heap.size → w0.heap.size ≤ B0 →
  (∀ (i : Nat) (z : State) (v : Value) (A1 : World) (O1 : Nat → Prop), (truthsFrom b s f x)[i]? = some z → J (k + i) O1 A1 → StIn O1 A1 z v → B0 ≤ A1.heap.size → (∀ i, O1 i → i < A1.heap.size) → YieldAt Fence.wide 0 Tryz.prog l #[v] A1 (YRes O1 (J (k + i + 1)) Jx A1)) →
  CallsIn Fence.wide 0 Tryz.prog 93 #[xv, .pointer (some ⟨sb, 0, none⟩), .pointer (some ⟨yb, 0, none⟩), .pointer (some ⟨cb, 0, none⟩)] A (YRes O (J (k + (truthsFrom b s f x).length)) Jx A)
set_option maxRecDepth 100000 in
set_option maxHeartbeats 16000000 in
theorem tru_node (b : Book) (s : Sack) (rv sv tv : Value) (w0 : World) (sb yb cb l B0 f : Nat) (Jx : World → Prop) (hB : BookB b) (hS : SackB s) (hr : RiversAt w0 rv b.rivers) (hs : ShellsAt w0 sv s.shells) (ht : RowOf testC w0 tv s.tests) (hJx : Stable B0 Jx)
  (ih : TruCall b s rv sv tv w0 sb yb cb l B0 Jx f) : TruCall b s rv sv tv w0 sb yb cb l B0 Jx (f + 1) := by
 intro k J O x xv A hJ hxB hlen hx hT hAB h0B hY
 have hx' := hx
 obtain ⟨ov, wv, rfl, ho, ⟨vs, v1, v2, v3, v4⟩⟩ := hx'
 obtain ⟨oa, oc, rfl, o1, o2, _⟩ := ho.1.open
 obtain ⟨wa, wk, rfl, w1, w2, _⟩ := RowAt.open v2
 obtain ⟨ra, rc, rfl, r1, r2, r3⟩ := hr.open
 obtain ⟨sa, sc, rfl, q1, q2, q3⟩ := hs.open
 obtain ⟨ta, tc, rfl, t1, t2, t3⟩ := RowAt.open ht
 have hlt : x.org.length < s.shells.length := by omega
 obtain ⟨sh, so, gv, S0, rfl, hS0, d0, d1, hg⟩ := q3 x.org.length hlt
 obtain ⟨ga, gc, rfl, _⟩ := hg.open
 obtain ⟨Aw, hAw⟩ : ∃ Aw, Aw = (((A.alloc (.cells #[.slice oa x.org.length oc, .slice wa x.wea.length wk] 113)).alloc (.cells #[.bool false] 4)).alloc (.cells #[.int .i64 x.org.length] 3)) := ⟨_, rfl⟩
 have hxa : Ext A Aw := by rw [hAw]; exact (((Ext.refl A).alloc _).alloc _).alloc _
 have hza : Aw.heap.size = A.heap.size + 3 := by rw [hAw]; simp
 have hTa := hT.ext' (hJ k) hxa
 have hE0 := hTa.ext
 have b0 : Aw.cell? ⟨A.heap.size, 0, none⟩ = some (.slice oa x.org.length oc) := by rw [hAw]; go_simp
 have b1 : Aw.cell? ⟨A.heap.size, 1, none⟩ = some (.slice wa x.wea.length wk) := by rw [hAw]; go_simp
 have b2 : Aw.cell? ⟨A.heap.size + 2, 0, none⟩ = some (.int .i64 x.org.length) := by rw [hAw]; go_simp
 have bres : Aw.heap[A.heap.size + 1]? = some (.cells #[.bool false] 4) := by
  rw [hAw]; exact (Below.heap_alloc _ _ _ (by simp)).trans (by have := World.alloc_heap_new (A.alloc (.cells #[.slice oa x.org.length oc, .slice wa x.wea.length wk] 113)) (.cells #[.bool false] 4); rwa [World.size_alloc] at this)
 have hN : NodeI b (.slice ra b.rivers.length rc) (.slice (some ⟨sh, so, none⟩) s.shells.length sc) (.slice ta s.tests.length tc) w0 sb yb cb l (J (k + truCnt b s f x 0)) O x (.slice oa x.org.length oc) (.slice wa x.wea.length wk) A O Aw := ⟨by simpa [truCnt] using hTa, hx.ext hxa, Touch.of_ext hxa, fun i hi => .inl hi, bres, b0, b1, b2⟩
 have HS4 := Lib.hid (fun W (h : Ext Aw W) => (⟨h.cell hTa.s0, h.cell hTa.s1, h.cell hTa.s2, h.cell hTa.s3, h.cell b2, h.cell (hE0.cell d0), h.cell (hE0.cell d1)⟩ : (fun w' => w'.cell? ⟨sb, 0, none⟩ = some (.int .i64 b.years) ∧ w'.cell? ⟨sb, 1, none⟩ = some (.slice ra b.rivers.length rc) ∧ w'.cell? ⟨sb, 2, none⟩ = some (.slice (some ⟨sh, so, none⟩) s.shells.length sc) ∧ w'.cell? ⟨sb, 3, none⟩ = some (.slice ta s.tests.length tc) ∧ w'.cell? ⟨A.heap.size + 2, 0, none⟩ = some (.int .i64 x.org.length) ∧ w'.cell? ⟨sh, so + x.org.length * 2, none⟩ = some (.slice ga S0.rings.length gc) ∧ w'.cell? ⟨sh, so + x.org.length * 2 + 1, none⟩ = some (.int .i64 S0.off)) W))
 have t1 : (x.org.length == s.shells.length) = false := by simp; omega
 have t2 : ((x.org.length : Int) == (s.shells.length : Int)) = false := by simp; omega
 have x1 : (0 : Int) ≤ (x.org.length : Int) := by omega
 have x2 : (x.org.length : Int) < (s.shells.length : Int) := by omega
 have q2 := hTa.s2
 have HO := Lib.hid (fun w1 => origins_any b (.slice ra b.rivers.length rc) (.slice (some ⟨sh, so, none⟩) s.shells.length sc) (.slice ta s.tests.length tc) (.slice ga S0.rings.length gc) S0.off w1 ⟨_, _, _, rfl⟩ ⟨_, _, _, rfl⟩ ⟨_, _, _, rfl⟩ ⟨_, _, _, rfl⟩)
 have hmix : Tryz.prog.follows .mixedOrders = true := by kernel_rfl
 have HY := Lib.hid hY
 have HJ := Lib.hid hJ
 have HNN := Lib.hid hN
 have HLEN := Lib.hid hlen
 have HR := Lib.hid hr
 have HOL := Lib.hid hTa.olt
 have HOA := Lib.hid hT.olt
 have HD := Lib.hid (And.intro d0 d1)
 clear hY hJ hN hTa hE0 hxa hx ho v2 v3 v4 w1 w2 r1 r2 r3 q1 q3 t3 d0 d1 hT hlen hr bres
 refine callsIn_of_wp_marks Tryz.func93 rfl trivial ?_ rfl
 simp only [Tryz.ntmps93, List.size_toArray, List.length_cons, List.length_nil, Nat.reduceAdd, Nat.reduceSub, Array.replicate_succ, Array.replicate_zero, List.push_toArray, List.append_toArray, List.nil_append, List.cons_append]
 gi_upto_region 2 with fail
 rw [← hAw]
 clear hAw
 gi_upto_region 4 with fail
 refine (wpIn_wide (n := 0)).2 ?_
 refine wp_region_noPanic ?_
 refine wp_region_held_drew (S := (fun w' => w'.cell? ⟨sb, 0, none⟩ = some (.int .i64 b.years) ∧ w'.cell? ⟨sb, 1, none⟩ = some (.slice ra b.rivers.length rc) ∧ w'.cell? ⟨sb, 2, none⟩ = some (.slice (some ⟨sh, so, none⟩) s.shells.length sc) ∧ w'.cell? ⟨sb, 3, none⟩ = some (.slice ta s.tests.length tc) ∧ w'.cell? ⟨A.heap.size + 2, 0, none⟩ = some (.int .i64 x.org.length) ∧ w'.cell? ⟨sh, so + x.org.length * 2, none⟩ = some (.slice ga S0.rings.length gc) ∧ w'.cell? ⟨sh, so + x.org.length * 2 + 1, none⟩ = some (.int .i64 S0.off))) (by kernel_rfl) ?_ (fun hHeld => ?_)
 ·exact HS4.out _ (by repeat (first | exact hxe | exact Ext.refl _ | apply Ext.drew))
 refine hTk (i := 0) (d := some 21) (v := ?_) (fun o ho => ?_) hHeld ?_
 rotate_left
 ·simp only [zA, zB, zD] at ho
  subst ho
  refine ⟨by rfl, fun w hSw => ?_⟩
  (try dsimp only at hSw)
  go_simp
  try with_reducible rfl
 try simp only [Act.put, yA, yB, yC]
 refine hTk (i := 1) (d := some 22) (v := ?_) (fun o ho => ?_) hHeld ?_
 rotate_left
 ·simp only [zA, zB, zC, zD] at ho
  subst ho
  refine ⟨by rfl, fun w hSw => ?_⟩
  (try dsimp only at hSw)
  go_simp
  try with_reducible rfl
 try simp only [Act.put, yA, yB, yC]
 refine hTk (i := 2) (d := some 23) (v := ?_) (fun o ho => ?_) hHeld ?_
 rotate_left
 ·simp only [zA, zB, zC, zD] at ho
  subst ho
  refine ⟨by rfl, fun w hSw => ?_⟩
  (try dsimp only at hSw)
  go_simp
  try with_reducible rfl
 try simp only [Act.put, yA, yB, yC]
 refine hTk (i := 3) (d := some 24) (v := ?_) (fun o ho => ?_) hHeld ?_
 rotate_left
 ·simp only [zA, zB, zC, zD] at ho
  subst ho
  refine ⟨by rfl, fun w hSw => ?_⟩
  (try dsimp only at hSw)
  go_simp
  try with_reducible rfl
 try simp only [Act.put, yA, yB, yC]
 refine hTk (i := 4) (d := some 25) (v := ?_) (fun o ho => ?_) hHeld ?_
 rotate_left
 ·simp only [zA, zB, zC, zD] at ho
  subst ho
  refine ⟨by rfl, fun w hSw => ?_⟩
  (try dsimp only at hSw)
  go_simp
  try with_reducible rfl
 try simp only [Act.put, yA, yB, yC]
 refine hTk (i := 5) (d := some 26) (v := ?_) (fun o ho => ?_) hHeld ?_
 rotate_left
 ·simp only [zA, zB, zC, zD] at ho
  subst ho
  refine ⟨by rfl, fun w hSw => ?_⟩
  (try dsimp only at hSw)
  go_simp
  try with_reducible rfl
 try simp only [Act.put, yA, yB, yC]
 refine wpAnyH_ready (rs := [6]) (by kernel_rfl) (by simp) ?_
 refine held_step (i := 6) (by kernel_rfl) (fun o ho K' hK => ?_) ?_
 ·simp only [zA, zB, zC, zD] at ho
  subst ho
  go_simp
  go_at_call 94
  unfold sackV at HO
  refine (HO.out _).mono ?_
  rintro e w1 ⟨sb2, xb2, rfl, hx1, z1, z2, z3, z4, hEnv⟩
  have hxe := (by repeat (first | exact Ext.refl _ | apply Ext.drew) : Ext Aw Aw.drew).trans hx1
  try go_simp
  refine hK.out _ _ ?_ (fun hHeld => ?_)
  ·exact HS4.out _ (by repeat (first | exact hxe | exact Ext.refl _ | apply Ext.drew))
  clear hK K'
  try simp only [yA, yB, yC]
  refine wpAnyH_done (by kernel_rfl) ?_ _
  refine NoPanic.normal ?_
  try simp only [yA, yB, yC]
  gi_wp2
  have hzA := hxe.size
  have z1' : Aw.heap.size ≤ sb2 := by simpa using z1
  have z2' : Aw.heap.size ≤ xb2 := by simpa using z2
  have hsa : shellAt s x.org.length = S0 := by unfold shellAt; rw [List.getD_eq_getElem?_getD, hS0.out]; rfl
  have HSA := Lib.hid hsa
  have hSB : ShellB S0 := hS.shell S0 (List.mem_of_getElem? hS0.out)
  have hN1 := HNN.out.ext (HJ.out _) hxe
  have HENV := Lib.hid hEnv
  clear hx1 z1 z2 z3 z4 hEnv b0 b1 b2 q2 t1 t2 HS4
  clear hHeld
  refine wpIn_range (gf := 121) (lb := #[.pointer (some ⟨sb2, 0, none⟩), .pointer (some ⟨xb2, 0, none⟩)]) (by rfl) enters_origins1 (fun _ _ y v => v = orgV y) (fun _ _ _ _ _ _ h => h) (orgsAt b s x) (fun i => O i ∨ i = A.heap.size + 1) ?hM ?hiter
   (fun i Or W => ∃ O1 : Nat → Prop, (∀ j, Or j ↔ O1 j ∨ j = A.heap.size + 1) ∧ NodeI b (.slice ra b.rivers.length rc) (.slice (some ⟨sh, so, none⟩) s.shells.length sc) (.slice ta s.tests.length tc) w0 sb yb cb l (J (k + truCnt b s f x i)) O x (.slice oa x.org.length oc) (.slice wa x.wea.length wk) A O1 W)
   (fun cd W => cd = .ret ∧ Jx W ∧ W.cell? ⟨A.heap.size + 1, 0, none⟩ = some (.bool false) ∧ Touch O A W)
   ?hI ?hIx ⟨O, fun j => Iff.rfl, hN1⟩
   (fun i Or y v a' W => ∃ bb : Nat, (W.cell? ⟨bb, 0, none⟩ = some (.int .i64 y.1) ∧ W.cell? ⟨bb, 1, none⟩ = some (.int .i64 y.2)) ∧ ∃ (u0 u2 u8 u9 u10 u11 u12 u13 u14 u15 u16 u17 u18 u19 u20 u21 u22 u23 u24 u25 u26 u27 u28 u29 u30 u31 u32 u33 u34 u35 u36 u37 u38 u39 u40 u41 u42 u43 u44 u45 u46 u47 u48 u49 u50 u51 u52 : Value), a' = { tmps := #[u0, .pointer (some ⟨sb, 0, none⟩), u2, .pointer (some ⟨cb, 0, none⟩), .pointer (some ⟨A.heap.size, 0, none⟩), .pointer (some ⟨A.heap.size + 1, 0, none⟩), .pointer (some ⟨A.heap.size + 1 + 1, 0, none⟩), .pointer (some ⟨bb, 0, none⟩), u8, u9, u10, u11, u12, u13, u14, u15, u16, u17, u18, u19, u20, u21, u22, u23, u24, u25, u26, u27, u28, u29, u30, u31, u32, u33, u34, u35, u36, u37, u38, u39, u40, u41, u42, u43, u44, u45, u46, u47, u48, u49, u50, u51, u52], defers := [] }) ?hAx ?hassign ?hbody ?hdone ?hstop
  case hM =>
   intro i hi
   have := HNN.out.ti.olt
   rcases hi with hi | hi
   ·have := this i hi; omega
   ·omega
  case hiter =>
   intro W1 p1 p2
   have hlow := HNN.out.ti.olt
   have h5 := hSB.n2
   have h6 := HENV.out
   have := origins_iter b S0.rings.length ra ga rc gc sb2 xb2 (fun j => (O j ∨ j = A.heap.size + 1) ∨ j = w1.heap.size + 1) W1 hB hSB.n1 (by omega) ⟨p1.cell h6.s0, p1.cell h6.s1, p1.cell h6.x0⟩ (fun h => ?_) (fun h => ?_)
   ·unfold orgsAt; rw [HSA.out]; exact this
   ·have hl := lt_of_cell h6.s0
    rcases h with (h | h) | h
    ·have := HOL.out _ h; omega
    ·omega
    ·simp only at hl; omega
   ·have hl := lt_of_cell h6.x0
    rcases h with (h | h) | h
    ·have := HOL.out _ h; omega
    ·omega
    ·simp only at hl; omega
  case hI =>
   rintro i Or W W' ⟨O1, p1, p2⟩ q
   exact ⟨O1, p1, p2.quiet (HJ.out _) (by omega) (by omega) (by omega) q (NB.slice _ _ _) (NB.slice _ _ _) (NB.slice _ _ _)⟩
  case hIx =>
   rintro cd W W' ⟨rfl, p1, p2, p3⟩ q
   exact ⟨rfl, hJx W W' p1 (q.mono (by omega)), q.cell_lt p2 (by simp only []; omega), p3.quiet q (by omega)⟩
  case hAx =>
   rintro i Or y v a' W W' ⟨bb, ⟨p1, p2⟩, p3⟩ q
   exact ⟨bb, ⟨q.cell p1 (NB.int _ _), q.cell p2 (NB.int _ _)⟩, p3⟩
  case hassign =>
   rintro l' i Or y v W K hi hy rfl hK
   have HK := Lib.hid hK
   clear hK
   unfold orgV
   gi_wp2
   refine HK.out _ (W.alloc (.cells #[.int .i64 y.1, .int .i64 y.2] 84)) ((Ext.refl W).alloc _) ⟨W.heap.size, ⟨by go_simp, by go_simp⟩, ?_⟩
   (repeat apply Exists.intro)
   rfl
  case hbody =>
   rintro l' i Or y v a' W hl ⟨rr, hrr⟩ hOr ⟨O1, p1, hN⟩ hy ⟨bb, ⟨g0, g1⟩, hA⟩ hsz
   obtain ⟨u0, hA⟩ := hA
   obtain ⟨u2, hA⟩ := hA
   obtain ⟨u8, hA⟩ := hA
   obtain ⟨u9, hA⟩ := hA
   obtain ⟨u10, hA⟩ := hA
   obtain ⟨u11, hA⟩ := hA
   obtain ⟨u12, hA⟩ := hA
   obtain ⟨u13, hA⟩ := hA
   obtain ⟨u14, hA⟩ := hA
   obtain ⟨u15, hA⟩ := hA
   obtain ⟨u16, hA⟩ := hA
   obtain ⟨u17, hA⟩ := hA
   obtain ⟨u18, hA⟩ := hA
   obtain ⟨u19, hA⟩ := hA
   obtain ⟨u20, hA⟩ := hA
   obtain ⟨u21, hA⟩ := hA
   obtain ⟨u22, hA⟩ := hA
   obtain ⟨u23, hA⟩ := hA
   obtain ⟨u24, hA⟩ := hA
   obtain ⟨u25, hA⟩ := hA
   obtain ⟨u26, hA⟩ := hA
   obtain ⟨u27, hA⟩ := hA
   obtain ⟨u28, hA⟩ := hA
   obtain ⟨u29, hA⟩ := hA
   obtain ⟨u30, hA⟩ := hA
   obtain ⟨u31, hA⟩ := hA
   obtain ⟨u32, hA⟩ := hA
   obtain ⟨u33, hA⟩ := hA
   obtain ⟨u34, hA⟩ := hA
   obtain ⟨u35, hA⟩ := hA
   obtain ⟨u36, hA⟩ := hA
   obtain ⟨u37, hA⟩ := hA
   obtain ⟨u38, hA⟩ := hA
   obtain ⟨u39, hA⟩ := hA
   obtain ⟨u40, hA⟩ := hA
   obtain ⟨u41, hA⟩ := hA
   obtain ⟨u42, hA⟩ := hA
   obtain ⟨u43, hA⟩ := hA
   obtain ⟨u44, hA⟩ := hA
   obtain ⟨u45, hA⟩ := hA
   obtain ⟨u46, hA⟩ := hA
   obtain ⟨u47, hA⟩ := hA
   obtain ⟨u48, hA⟩ := hA
   obtain ⟨u49, hA⟩ := hA
   obtain ⟨u50, hA⟩ := hA
   obtain ⟨u51, hA⟩ := hA
   obtain ⟨u52, hA⟩ := hA
   subst hA
   obtain ⟨r, yy, rfl, h1, h2, h3⟩ := originsOf_mem hB (n := S0.rings.length) hSB.n1 (by have := List.mem_of_getElem? hy; unfold orgsAt at this; rwa [HSA.out] at this)
   have HN := Lib.hid hN
   have HYY := Lib.hid hy
   have HP1 := Lib.hid p1
   have HEX := Lib.hid (fun W' (h : Ext W W') => (⟨Touch.of_ext h, Or, fun j hj => ⟨.inl hj, by have := (hOr j hj).2; have := h.size; omega⟩, O1, p1, (hN.ext (HJ.out _) h)⟩ : Touch Or W W' ∧ ∃ O' : Nat → Prop, (∀ j, O' j → (Or j ∨ W.heap.size ≤ j) ∧ j < W'.heap.size) ∧ ∃ O1 : Nat → Prop, (∀ j, O' j ↔ O1 j ∨ j = A.heap.size + 1) ∧ NodeI b (.slice ra b.rivers.length rc) (.slice (some ⟨sh, so, none⟩) s.shells.length sc) (.slice ta s.tests.length tc) w0 sb yb cb l (J (k + truCnt b s f x i)) O x (.slice oa x.org.length oc) (.slice wa x.wea.length wk) A O1 W'))
   have HNEX := Lib.hid (fun (hn : nextsOf b s x ((r : Int), (yy : Int)) = none) => (by
    rw [show truCnt b s f x (i + 1) = truCnt b s f x i by rw [truCnt_succ hy, truAt_no hn]; rfl]
    intro W' h
    exact HEX.out W' h : ∀ W', Ext W W' → Touch Or W W' ∧ ∃ O' : Nat → Prop, (∀ j, O' j → (Or j ∨ W.heap.size ≤ j) ∧ j < W'.heap.size) ∧ ∃ O1 : Nat → Prop, (∀ j, O' j ↔ O1 j ∨ j = A.heap.size + 1) ∧ NodeI b (.slice ra b.rivers.length rc) (.slice (some ⟨sh, so, none⟩) s.shells.length sc) (.slice ta s.tests.length tc) w0 sb yb cb l (J (k + truCnt b s f x (i + 1))) O x (.slice oa x.org.length oc) (.slice wa x.wea.length wk) A O1 W'))
   have HT := Lib.hid (fun w2 (h : Ext W w2) => tested_any b (.slice ra b.rivers.length rc) (.slice (some ⟨sh, so, none⟩) s.shells.length sc) (.slice ta s.tests.length tc) s.tests r yy x.org.length w2 hB (RiversAt.ext HR.out (hN.ti.ext.trans h)) ⟨_, _, _, rfl⟩ (RowOf.ext ht (hN.ti.ext.trans h)) h1 h2)
   have e0 := hN.ti.s0
   have e1 := hN.ti.s1
   have e2 := hN.ti.s2
   have e3 := hN.ti.s3
   have e4 := hN.i0
   have HS7 := Lib.hid (fun W' (h : Ext W W') => (⟨h.cell e0, h.cell e1, h.cell e2, h.cell e3, h.cell hN.x0, h.cell hN.x1, h.cell e4, h.cell (hN.ti.ext.cell HD.out.1), h.cell (hN.ti.ext.cell HD.out.2), h.cell g0, h.cell g1⟩ : (fun w' => w'.cell? ⟨sb, 0, none⟩ = some (.int .i64 b.years) ∧ w'.cell? ⟨sb, 1, none⟩ = some (.slice ra b.rivers.length rc) ∧ w'.cell? ⟨sb, 2, none⟩ = some (.slice (some ⟨sh, so, none⟩) s.shells.length sc) ∧ w'.cell? ⟨sb, 3, none⟩ = some (.slice ta s.tests.length tc) ∧ w'.cell? ⟨A.heap.size, 0, none⟩ = some (.slice oa x.org.length oc) ∧ w'.cell? ⟨A.heap.size, 1, none⟩ = some (.slice wa x.wea.length wk) ∧ w'.cell? ⟨A.heap.size + 2, 0, none⟩ = some (.int .i64 x.org.length) ∧ w'.cell? ⟨sh, so + x.org.length * 2, none⟩ = some (.slice ga S0.rings.length gc) ∧ w'.cell? ⟨sh, so + x.org.length * 2 + 1, none⟩ = some (.int .i64 S0.off) ∧ w'.cell? ⟨bb, 0, none⟩ = some (.int .i64 r) ∧ w'.cell? ⟨bb, 1, none⟩ = some (.int .i64 yy)) W'))
   obtain ⟨_, _, ste, stp, sts⟩ := hN.st
   cases ste
   have HW := Lib.hid (fun (M : Nat → Prop) w2 (h : Ext W w2) (hm : ∀ j, M j → (O1 j ∨ W.heap.size ≤ j) ∧ j < w2.heap.size) => with_any b (.slice ra b.rivers.length rc) (.slice (some ⟨sh, so, none⟩) s.shells.length sc) (.slice ta s.tests.length tc) (.slice oa x.org.length oc) (.slice wa x.wea.length wk) (.slice ga S0.rings.length gc) x S0 r yy M w2 hB (RiversAt.ext HR.out (hN.ti.ext.trans h)) ⟨_, _, _, rfl⟩ ⟨_, _, _, rfl⟩ ((stp.less (fun j hj => (hm j hj).1)).ext h) ((sts.less (fun j hj => (hm j hj).1)).ext h) hxB (IntsAt.ext hg (hN.ti.ext.trans h)) hSB h1 h2 h3 (fun j hj => (hm j hj).2))
   have HOW := Lib.hid hN.ti.olt
   have HC := Lib.hid (fun W' (h : Ext W W') => (h.cell hN.ti.c : W'.cell? ⟨cb, 0, none⟩ = some (.func (.func 93) #[] #[.pointer (some ⟨sb, 0, none⟩), .pointer (some ⟨yb, 0, none⟩), .pointer (some ⟨cb, 0, none⟩)])))
   have HREC := Lib.hid (fun (z : State) (hz : nextsOf b s x ((r : Int), (yy : Int)) = some z) (zv : Value) (W9 : World) (hx9 : Ext W W9) (hst : StateOff O1 W9 z zv) => (by
    have hsb := StateB.with hxB (by have := HLEN.out; have := hS.n2; omega) (nexts_with hz)
    rw [truCnt_succ hy, truAt_yes hz, ← Nat.add_assoc]
    refine ih _ J O1 z zv W9 HJ.out hsb.1 (by rw [hsb.2]; have := HLEN.out; simp; omega) (StIn.of hB hsb.1 hst (by rw [hsb.2]; simp)) (hN.ti.ext' (HJ.out _) hx9) (by have := hx9.size; omega) h0B ?_
    intro i' z' v' A1 O2 hz' hj hst' hsz' ho'
    obtain ⟨pp, qq, hpq, hpl⟩ := tru_split hy
    have := HY.out (truCnt b s f x i + i') z' v' A1 O2 (by rw [hpq, truAt_yes hz, List.append_assoc, List.getElem?_append_right (by omega), List.getElem?_append_left (by have := (List.getElem?_eq_some_iff.1 hz').1; omega), ← hz']; congr 1; omega) (by rw [← Nat.add_assoc]; exact hj) hst' hsz' ho'
    rw [← Nat.add_assoc] at this
    exact this : CallsIn Fence.wide 0 Tryz.prog 93 #[zv, .pointer (some ⟨sb, 0, none⟩), .pointer (some ⟨yb, 0, none⟩), .pointer (some ⟨cb, 0, none⟩)] W9 (YRes O1 (J (k + truCnt b s f x (i + 1))) Jx W9)))
   have HSTB := Lib.hid (fun (z : State) (hz : nextsOf b s x ((r : Int), (yy : Int)) = some z) => (StateB.with hxB (by have := HLEN.out; have := hS.n2; omega) (nexts_with hz)).1)
   have HSTO := Lib.hid (fun (z : State) (hz : nextsOf b s x ((r : Int), (yy : Int)) = some z) => (by rw [(StateB.with hxB (by have := HLEN.out; have := hS.n2; omega) (nexts_with hz)).2]; simp : z.org ≠ []))
   have HFIN := Lib.hid (fun (W9 : World) (hx9 : Ext W W9) (W4 : World) (O2 : Nat → Prop) (hT : Touch O1 W9 W4) (hO2 : ∀ j, O2 j → (O1 j ∨ W9.heap.size ≤ j) ∧ j < W4.heap.size) (hj : J (k + truCnt b s f x (i + 1)) O2 W4) => (by
    have hs9 := hx9.size
    have h4 := (hN.ext (HJ.out _) hx9).post HOA.out hT hO2 hj
    refine ⟨(Touch.of_ext hx9).trans (hT.mono (fun j hj => (p1 j).2 (.inl hj))), fun j => O2 j ∨ j = A.heap.size + 1, fun j hj => ?_, O2, fun j => Iff.rfl, h4⟩
    rcases hj with hj | hj
    ·have h5 := hO2 j hj
     exact ⟨h5.1.imp (fun h => (p1 j).2 (.inl h)) (fun h => by omega), h5.2⟩
    ·exact ⟨.inl ((p1 j).2 (.inr hj)), by have := hT.size; omega⟩ : Touch Or W W4 ∧ ∃ O' : Nat → Prop, (∀ j, O' j → (Or j ∨ W.heap.size ≤ j) ∧ j < W4.heap.size) ∧ ∃ O1 : Nat → Prop, (∀ j, O' j ↔ O1 j ∨ j = A.heap.size + 1) ∧ NodeI b (.slice ra b.rivers.length rc) (.slice (some ⟨sh, so, none⟩) s.shells.length sc) (.slice ta s.tests.length tc) w0 sb yb cb l (J (k + truCnt b s f x (i + 1))) O x (.slice oa x.org.length oc) (.slice wa x.wea.length wk) A O1 W4))
   have HBX := Lib.hid (fun (W9 : World) (hx9 : Ext W W9) (W4 : World) (hT : Touch O1 W9 W4) => (hT.keep (A.heap.size + 1) _ ((Below.block hx9 _ (Array.getElem?_eq_some_iff.1 hN.res).1).trans hN.res) (fun h => (by rcases hN.low _ h with h5 | h5; have := HOA.out _ h5; omega; omega))))
   have HBOX := Lib.hid (fun (W9 : World) (hx9 : Ext W W9) (W4 : World) (hT : Touch O1 W9 W4) => box_cell (HBX.out W9 hx9 W4 hT))
   have HRET := Lib.hid (fun (W9 : World) (hx9 : Ext W W9) (W4 : World) (hT : Touch O1 W9 W4) (hj : Jx W4) => (by
    obtain ⟨h5, h6⟩ := HBOX.out W9 hx9 W4 hT
    exact ⟨((Touch.of_ext hx9).trans (hT.mono (fun j hj => (p1 j).2 (.inl hj)))).trans (Touch.setCell _ ((p1 _).2 (.inr rfl))), rfl, hJx _ _ hj (Quiet.setBool (HBX.out W9 hx9 W4 hT) (by omega)), (by go_simp), Touch.of_new (N := fun j => O j ∨ O1 j ∨ j = A.heap.size + 1) ((((hN.tch.trans (Touch.of_ext hx9)).mono (fun j hj => .inl hj)).trans (hT.mono (fun j hj => .inr (.inl hj)))).trans (Touch.setCell _ (.inr (.inr rfl)))) (fun j hj hl => by rcases hj with hj | hj | hj; exact hj; rcases hN.low j hj with h | h; exact h; omega; omega)⟩ : Touch Or W (W4.setCell ⟨A.heap.size + 1, 0, none⟩ (.bool false)) ∧ Code.ret = Code.ret ∧ Jx (W4.setCell ⟨A.heap.size + 1, 0, none⟩ (.bool false)) ∧ (W4.setCell ⟨A.heap.size + 1, 0, none⟩ (.bool false)).cell? ⟨A.heap.size + 1, 0, none⟩ = some (.bool false) ∧ Touch O A (W4.setCell ⟨A.heap.size + 1, 0, none⟩ (.bool false))))
   clear hy stp sts
   cases htest : testedB b s.tests x.org.length ((r : Int), (yy : Int)) with
   | false =>
    rw [htest] at HT
    unfold sackV at HT
    have HNX := Lib.hid (HNEX.out (by unfold nextsOf; rw [if_neg (by rw [htest]; decide)]))
    clear htest p1 HEX HNEX hN
    gi_wp2_with (gi_at_call 95; refine (callsIn_round (HT.out _ (Ext.refl _))).mono ?_; rintro e w2 ⟨rfl, hx2⟩)
    exact HNX.out _ hx2
   | true =>
    rw [htest] at HT
    unfold sackV at HT
    clear p1 hN
    gi_upto_region 7 with (gi_at_call 95; refine (callsIn_round (HT.out _ (Ext.refl _))).mono ?_; rintro e w2 ⟨rfl, hx2⟩)
    clear e0 e1 e2 e3 e4 g0 g1
    have hz2 : W.heap.size ≤ w2.heap.size := hx2.size
    refine wpIn_region_held_drew (S := ((fun w' => w'.cell? ⟨sb, 0, none⟩ = some (.int .i64 b.years) ∧ w'.cell? ⟨sb, 1, none⟩ = some (.slice ra b.rivers.length rc) ∧ w'.cell? ⟨sb, 2, none⟩ = some (.slice (some ⟨sh, so, none⟩) s.shells.length sc) ∧ w'.cell? ⟨sb, 3, none⟩ = some (.slice ta s.tests.length tc) ∧ w'.cell? ⟨A.heap.size, 0, none⟩ = some (.slice oa x.org.length oc) ∧ w'.cell? ⟨A.heap.size, 1, none⟩ = some (.slice wa x.wea.length wk) ∧ w'.cell? ⟨A.heap.size + 2, 0, none⟩ = some (.int .i64 x.org.length) ∧ w'.cell? ⟨sh, so + x.org.length * 2, none⟩ = some (.slice ga S0.rings.length gc) ∧ w'.cell? ⟨sh, so + x.org.length * 2 + 1, none⟩ = some (.int .i64 S0.off) ∧ w'.cell? ⟨bb, 0, none⟩ = some (.int .i64 r) ∧ w'.cell? ⟨bb, 1, none⟩ = some (.int .i64 yy)))) (by kernel_rfl) (by kernel_rfl) (by rintro ⟨_, _, h⟩; exact h) ?_ (fun hHeld => ?_)
    ·exact HS7.out _ (by repeat (first | exact hxe | exact hx2 | apply Ext.drew | apply Ext.alloc | refine Ext.setCell ?_ (by first | exact hzl | exact hz2 | (simp only []; omega)) _))
    refine hTk (i := 0) (d := some 35) (v := ?_) (fun o ho => ?_) hHeld ?_
    rotate_left
    ·simp only [zA, zB, zD] at ho
     subst ho
     refine ⟨by rfl, fun w hSw => ?_⟩
     (try dsimp only at hSw)
     go_simp
     try with_reducible rfl
    try simp only [Act.put, yA, yB, yC]
    refine hTk (i := 1) (d := some 36) (v := ?_) (fun o ho => ?_) hHeld ?_
    rotate_left
    ·simp only [zA, zB, zC, zD] at ho
     subst ho
     refine ⟨by rfl, fun w hSw => ?_⟩
     (try dsimp only at hSw)
     go_simp
     try with_reducible rfl
    try simp only [Act.put, yA, yB, yC]
    refine hTk (i := 2) (d := some 37) (v := ?_) (fun o ho => ?_) hHeld ?_
    rotate_left
    ·simp only [zA, zB, zC, zD] at ho
     subst ho
     refine ⟨by rfl, fun w hSw => ?_⟩
     (try dsimp only at hSw)
     go_simp
     try with_reducible rfl
    try simp only [Act.put, yA, yB, yC]
    refine hTk (i := 3) (d := some 38) (v := ?_) (fun o ho => ?_) hHeld ?_
    rotate_left
    ·simp only [zA, zB, zC, zD] at ho
     subst ho
     refine ⟨by rfl, fun w hSw => ?_⟩
     (try dsimp only at hSw)
     go_simp
     try with_reducible rfl
    try simp only [Act.put, yA, yB, yC]
    refine hTk (i := 4) (d := some 39) (v := ?_) (fun o ho => ?_) hHeld ?_
    rotate_left
    ·simp only [zA, zB, zC, zD] at ho
     subst ho
     refine ⟨by rfl, fun w hSw => ?_⟩
     (try dsimp only at hSw)
     go_simp
     try with_reducible rfl
    try simp only [Act.put, yA, yB, yC]
    refine hTk (i := 5) (d := some 40) (v := ?_) (fun o ho => ?_) hHeld ?_
    rotate_left
    ·simp only [zA, zB, zC, zD] at ho
     subst ho
     refine ⟨by rfl, fun w hSw => ?_⟩
     (try dsimp only at hSw)
     go_simp
     try with_reducible rfl
    try simp only [Act.put, yA, yB, yC]
    refine hTk (i := 6) (d := some 41) (v := ?_) (fun o ho => ?_) hHeld ?_
    rotate_left
    ·simp only [zA, zB, zC, zD] at ho
     subst ho
     refine ⟨by rfl, fun w hSw => ?_⟩
     (try dsimp only at hSw)
     go_simp
     try with_reducible rfl
    try simp only [Act.put, yA, yB, yC]
    refine hTk (i := 7) (d := some 42) (v := ?_) (fun o ho => ?_) hHeld ?_
    rotate_left
    ·simp only [zA, zB, zC, zD] at ho
     subst ho
     refine ⟨by rfl, fun w hSw => ?_⟩
     (try dsimp only at hSw)
     go_simp
     try with_reducible rfl
    try simp only [Act.put, yA, yB, yC]
    refine wpAnyH_ready (rs := [8, 12]) (by kernel_rfl) (by simp) ?_
    refine held_step (i := 8) (by kernel_rfl) (fun o ho K' hK => ?_) ?_
    ·simp only [zA, zB, zC, zD] at ho
     subst ho
     go_simp
     go_at_call 96
     unfold sackV at HW
     refine (HW.out O1 _ (by repeat (first | exact hx2 | apply Ext.drew | apply Ext.alloc)) (fun j hj => ⟨.inl hj, by have := HOW.out j hj; simp; omega⟩)).mono ?_
     rintro e w3 ⟨oa2, on2, oc2, wa2, wn2, wc2, is, rfl, hx3, hpost⟩
     have hxe : Ext W w3 := (by repeat (first | exact hx2 | apply Ext.drew | apply Ext.alloc) : Ext W (w2.drew)).trans hx3
     have HP := Lib.hid (with_cases hpost)
     clear hpost
     have hzl : W.heap.size ≤ w3.heap.size := hxe.size
     try go_simp
     refine hK.out _ _ ?_ (fun hHeld => ?_)
     ·exact HS7.out _ (by repeat (first | exact hxe | exact hx2 | apply Ext.drew | apply Ext.alloc | refine Ext.setCell ?_ (by first | exact hzl | exact hz2 | (simp only []; omega)) _))
     clear hK K'
     try simp only [yA, yB, yC]
     refine hTk (i := 9) (d := some 34) (v := ?_) (fun o ho => ?_) hHeld ?_
     rotate_left
     ·simp only [zA, zB, zC, zD] at ho
      subst ho
      refine ⟨by rfl, fun w hSw => ?_⟩
      (try dsimp only at hSw)
      go_simp
      try with_reducible rfl
     try simp only [Act.put, yA, yB, yC]
     refine hTk (i := 10) (d := some 44) (v := ?_) (fun o ho => ?_) hHeld ?_
     rotate_left
     ·simp only [zA, zB, zC, zD] at ho
      subst ho
      refine ⟨by rfl, fun w hSw => ?_⟩
      (try dsimp only at hSw)
      go_simp
      try with_reducible rfl
     try simp only [Act.put, yA, yB, yC]
     refine hTk (i := 11) (d := some 45) (v := ?_) (fun o ho => ?_) hHeld ?_
     rotate_left
     ·simp only [zA, zB, zC, zD] at ho
      subst ho
      refine ⟨by rfl, fun w hSw => ?_⟩
      (try dsimp only at hSw)
      go_simp
      try with_reducible rfl
     try simp only [Act.put, yA, yB, yC]
     refine wpAnyH_ready (rs := [12]) (by kernel_rfl) (by simp) ?_
     refine held_step (i := 12) (by kernel_rfl) (fun o ho K' hK => ?_) ?_
     ·simp only [zA, zB, zC, zD] at ho
      subst ho
      go_simp
      refine hK.out _ _ ?_ (fun hHeld => ?_)
      ·exact HS7.out _ (by repeat (first | exact hxe | exact hx2 | apply Ext.drew | apply Ext.alloc | refine Ext.setCell ?_ (by first | exact hzl | exact hz2 | (simp only []; omega)) _))
      clear hK K'
      try simp only [yA, yB, yC]
      refine wpAnyH_ready (rs := [13]) (by kernel_rfl) (by simp) ?_
      refine held_step (i := 13) (by kernel_rfl) (fun o ho K' hK => ?_) ?_
      ·simp only [zA, zB, zC, zD] at ho
       subst ho
       go_simp
       refine hK.out _ _ ?_ (fun hHeld => ?_)
       ·exact HS7.out _ (by repeat (first | exact hxe | exact hx2 | apply Ext.drew | apply Ext.alloc | refine Ext.setCell ?_ (by first | exact hzl | exact hz2 | (simp only []; omega)) _))
       clear hK K'
       try simp only [yA, yB, yC]
       refine wpAnyH_ready (rs := [14]) (by kernel_rfl) (by simp) ?_
       refine held_step (i := 14) (by kernel_rfl) (fun o ho K' hK => ?_) ?_
       ·simp only [zA, zB, zC, zD] at ho
        subst ho
        go_simp
        refine hK.out _ _ ?_ (fun hHeld => ?_)
        ·exact HS7.out _ (by repeat (first | exact hxe | exact hx2 | apply Ext.drew | apply Ext.alloc | refine Ext.setCell ?_ (by first | exact hzl | exact hz2 | (simp only []; omega)) _))
        clear hK K'
        try simp only [yA, yB, yC]
        refine wpAnyH_done (by kernel_rfl) ?_ _
        try simp only [yA, yB, yC]
        clear hHeld
        rcases HP.out with ⟨rfl, hn⟩ | ⟨rfl, z, hz, hst⟩
        ·clear HP
         have HNX := Lib.hid (HNEX.out (by unfold nextsOf; have h := HSA.out; unfold shellAt at h; rw [if_pos htest, h]; exact hn))
         clear hn
         gi_wp2
         exact HNX.out _ (by repeat (first | exact hxe | exact hx2 | apply Ext.drew | apply Ext.alloc | refine Ext.setCell ?_ (by first | exact hzl | exact hz2 | (simp only []; omega)) _))
        ·clear HP
         have hz : nextsOf b s x ((r : Int), (yy : Int)) = some z := by unfold nextsOf; have h := HSA.out; unfold shellAt at h; rw [if_pos htest, h]; exact hz
         have hx9 : Ext W (w3.alloc (.cells #[.slice oa2 on2 oc2, .slice wa2 wn2 wc2] 113)) := (by repeat (first | exact hxe | exact hx2 | apply Ext.drew | apply Ext.alloc | refine Ext.setCell ?_ (by first | exact hzl | exact hz2 | (simp only []; omega)) _))
         have hst9 : StateOff O1 (w3.alloc (.cells #[.slice oa2 on2 oc2, .slice wa2 wn2 wc2] 113)) z (.agg #[.slice oa2 on2 oc2, .slice wa2 wn2 wc2]) := StateOff.ext hst ((Ext.refl w3).alloc _)
         have hc := HC.out _ hx9
         have HR9 := Lib.hid (HREC.out z hz _ _ hx9 hst9)
         have HF9 := Lib.hid (HFIN.out _ hx9)
         have HG9 := Lib.hid (HRET.out _ hx9)
         have HB9 := Lib.hid (HBOX.out _ hx9)
         clear hst hz hst9 hx9
         gi_wp2_with (gi_at_call 93; refine (callsIn_round (callsIn_wide.1 HR9.out)).mono ?_; rintro e w4 ⟨b', O2, rfl, hT4, hO2, hj4, hjx4⟩; obtain ⟨k1, k2⟩ := HB9.out w4 hT4; cases b')
         ·exact ⟨(HG9.out w4 hT4 (hjx4 (by trivial))).1, rfl, (HG9.out w4 hT4 (hjx4 (by trivial))).2.2⟩
         ·exact HF9.out w4 O2 hT4 hO2 (hj4 (by trivial))
       exact AllReadyH.nil
      exact AllReadyH.nil
     exact AllReadyH.nil
    refine held_step (i := 12) (by kernel_rfl) (fun o ho K' hK => ?_) ?_
    ·simp only [zA, zB, zC, zD] at ho
     subst ho
     go_simp
     refine hK.out _ _ ?_ (fun hHeld => ?_)
     ·exact HS7.out _ (by repeat (first | exact hxe | exact hx2 | apply Ext.drew | apply Ext.alloc | refine Ext.setCell ?_ (by first | exact hzl | exact hz2 | (simp only []; omega)) _))
     clear hK K'
     try simp only [yA, yB, yC]
     refine wpAnyH_ready (rs := [8]) (by kernel_rfl) (by simp) ?_
     refine held_step (i := 8) (by kernel_rfl) (fun o ho K' hK => ?_) ?_
     ·simp only [zA, zB, zC, zD] at ho
      subst ho
      go_simp
      go_at_call 96
      unfold sackV at HW
      refine (HW.out (fun j => O1 j ∨ j = w2.heap.size) _ (by repeat (first | exact hx2 | apply Ext.drew | apply Ext.alloc)) (fun j hj => by rcases hj with hj | rfl; exact ⟨.inl hj, by have := HOW.out j hj; simp; omega⟩; exact ⟨.inr hz2, by simp⟩)).mono ?_
      rintro e w3 ⟨oa2, on2, oc2, wa2, wn2, wc2, is, rfl, hx3, hpost⟩
      have hxe : Ext W w3 := (by repeat (first | exact hx2 | apply Ext.drew | apply Ext.alloc) : Ext W (w2.drew.alloc (.cells #[.slice none 0 0, .slice none 0 0] 113))).trans hx3
      have HP := Lib.hid (with_cases hpost)
      clear hpost
      have hzl : W.heap.size ≤ w3.heap.size := hxe.size
      have c8 := hx3.cell (a := ⟨w2.heap.size, 0, none⟩) (v := .slice none 0 0) (by go_simp)
      have c9 := hx3.cell (a := ⟨w2.heap.size, 1, none⟩) (v := .slice none 0 0) (by go_simp)
      have f8 : w3.frozen? ⟨w2.heap.size, 0, none⟩ = false := (hx3.frozen (a := ⟨w2.heap.size, 0, none⟩) (by simp)).trans (by go_simp)
      have f9 : w3.frozen? ⟨w2.heap.size, 1, none⟩ = false := (hx3.frozen (a := ⟨w2.heap.size, 1, none⟩) (by simp)).trans (by go_simp)
      try go_simp
      refine hK.out _ _ ?_ (fun hHeld => ?_)
      ·exact HS7.out _ (by repeat (first | exact hxe | exact hx2 | apply Ext.drew | apply Ext.alloc | refine Ext.setCell ?_ (by first | exact hzl | exact hz2 | (simp only []; omega)) _))
      clear hK K'
      try simp only [yA, yB, yC]
      refine hTk (i := 9) (d := some 34) (v := ?_) (fun o ho => ?_) hHeld ?_
      rotate_left
      ·simp only [zA, zB, zC, zD] at ho
       subst ho
       refine ⟨by rfl, fun w hSw => ?_⟩
       (try dsimp only at hSw)
       go_simp
       try with_reducible rfl
      try simp only [Act.put, yA, yB, yC]
      refine hTk (i := 10) (d := some 44) (v := ?_) (fun o ho => ?_) hHeld ?_
      rotate_left
      ·simp only [zA, zB, zC, zD] at ho
       subst ho
       refine ⟨by rfl, fun w hSw => ?_⟩
       (try dsimp only at hSw)
       go_simp
       try with_reducible rfl
      try simp only [Act.put, yA, yB, yC]
      refine hTk (i := 11) (d := some 45) (v := ?_) (fun o ho => ?_) hHeld ?_
      rotate_left
      ·simp only [zA, zB, zC, zD] at ho
       subst ho
       refine ⟨by rfl, fun w hSw => ?_⟩
       (try dsimp only at hSw)
       go_simp
       try with_reducible rfl
      try simp only [Act.put, yA, yB, yC]
      refine wpAnyH_ready (rs := [13]) (by kernel_rfl) (by simp) ?_
      refine held_step (i := 13) (by kernel_rfl) (fun o ho K' hK => ?_) ?_
      ·simp only [zA, zB, zC, zD] at ho
       subst ho
       go_simp
       refine hK.out _ _ ?_ (fun hHeld => ?_)
       ·exact HS7.out _ (by repeat (first | exact hxe | exact hx2 | apply Ext.drew | apply Ext.alloc | refine Ext.setCell ?_ (by first | exact hzl | exact hz2 | (simp only []; omega)) _))
       clear hK K'
       try simp only [yA, yB, yC]
       refine wpAnyH_ready (rs := [14]) (by kernel_rfl) (by simp) ?_
       refine held_step (i := 14) (by kernel_rfl) (fun o ho K' hK => ?_) ?_
       ·simp only [zA, zB, zC, zD] at ho
        subst ho
        go_simp
        refine hK.out _ _ ?_ (fun hHeld => ?_)
        ·exact HS7.out _ (by repeat (first | exact hxe | exact hx2 | apply Ext.drew | apply Ext.alloc | refine Ext.setCell ?_ (by first | exact hzl | exact hz2 | (simp only []; omega)) _))
        clear hK K'
        try simp only [yA, yB, yC]
        refine wpAnyH_done (by kernel_rfl) ?_ _
        try simp only [yA, yB, yC]
        clear hHeld
        rcases HP.out with ⟨rfl, hn⟩ | ⟨rfl, z, hz, hst⟩
        ·clear HP
         have HNX := Lib.hid (HNEX.out (by unfold nextsOf; have h := HSA.out; unfold shellAt at h; rw [if_pos htest, h]; exact hn))
         clear hn
         gi_wp2
         exact HNX.out _ (by repeat (first | exact hxe | exact hx2 | apply Ext.drew | apply Ext.alloc | refine Ext.setCell ?_ (by first | exact hzl | exact hz2 | (simp only []; omega)) _))
        ·clear HP
         have hz : nextsOf b s x ((r : Int), (yy : Int)) = some z := by unfold nextsOf; have h := HSA.out; unfold shellAt at h; rw [if_pos htest, h]; exact hz
         have hx9 : Ext W ((w3.setCell ⟨w2.heap.size, 0, none⟩ (.slice oa2 on2 oc2)).setCell ⟨w2.heap.size, 1, none⟩ (.slice wa2 wn2 wc2)) := (by repeat (first | exact hxe | exact hx2 | apply Ext.drew | apply Ext.alloc | refine Ext.setCell ?_ (by first | exact hzl | exact hz2 | (simp only []; omega)) _))
         have hst9 : StateOff O1 ((w3.setCell ⟨w2.heap.size, 0, none⟩ (.slice oa2 on2 oc2)).setCell ⟨w2.heap.size, 1, none⟩ (.slice wa2 wn2 wc2)) z (.agg #[.slice oa2 on2 oc2, .slice wa2 wn2 wc2]) := (StateOff.touch hst ((Touch.setCell (A := w3) (a := ⟨w2.heap.size, 0, none⟩) _ (.inr rfl)).trans (Touch.setCell (a := ⟨w2.heap.size, 1, none⟩) _ (.inr rfl)))).less (fun j hj => .inl hj)
         have hc := HC.out _ hx9
         have HR9 := Lib.hid (HREC.out z hz _ _ hx9 hst9)
         have HF9 := Lib.hid (HFIN.out _ hx9)
         have HG9 := Lib.hid (HRET.out _ hx9)
         have HB9 := Lib.hid (HBOX.out _ hx9)
         clear hst hz hst9 hx9
         gi_wp2_with (gi_at_call 93; refine (callsIn_round (callsIn_wide.1 HR9.out)).mono ?_; rintro e w4 ⟨b', O2, rfl, hT4, hO2, hj4, hjx4⟩; obtain ⟨k1, k2⟩ := HB9.out w4 hT4; cases b')
         ·exact ⟨(HG9.out w4 hT4 (hjx4 (by trivial))).1, rfl, (HG9.out w4 hT4 (hjx4 (by trivial))).2.2⟩
         ·exact HF9.out w4 O2 hT4 hO2 (hj4 (by trivial))
       exact AllReadyH.nil
      exact AllReadyH.nil
     exact AllReadyH.nil
    exact AllReadyH.nil
  case hdone =>
   rintro D Or W hD hOr ⟨O1, p1, hN⟩ hd
   obtain ⟨k1, k2⟩ := box_cell hN.res
   have hq1 := Quiet.setBool (n := B0) (y := true) hN.res (by omega)
   have hd2 := (Touch.setCell (M := (· = A.heap.size + 1)) (A := W) (a := ⟨A.heap.size + 1, 0, none⟩) (.bool true) rfl).keep _ _ hd (by omega)
   have hq2 := Quiet.putObj (n := w1.heap.size) (.deferred none) hd2 hD rfl
   have hk1 : (W.setCell ⟨A.heap.size + 1, 0, none⟩ (.bool true)).cell? ⟨A.heap.size + 1, 0, none⟩ = some (.bool true) := by go_simp
   have hk2 := hq2.cell_lt hk1 (by simp only []; omega)
   have hj2 := HJ.out _ _ _ _ (HJ.out _ _ _ _ hN.ti.j hq1) (hq2.mono (by omega))
   rw [truCnt_all] at hj2
   have ht : Touch O A ((W.setCell ⟨A.heap.size + 1, 0, none⟩ (.bool true)).putObj D (.deferred none)) := Touch.of_new (N := fun i => O i ∨ i = A.heap.size + 1 ∨ i = D) (((hN.tch.mono (fun i hi => .inl hi)).trans (Touch.setCell (M := fun i => O i ∨ i = A.heap.size + 1 ∨ i = D) _ (.inr (.inl rfl)))).trans (Touch.putObj _ (.inr (.inr rfl)))) (fun i hi hl => by rcases hi with hi | hi | hi; exact hi; omega; omega)
   have ho : ∀ i, O1 i → (O i ∨ A.heap.size ≤ i) ∧ i < ((W.setCell ⟨A.heap.size + 1, 0, none⟩ (.bool true)).putObj D (.deferred none)).heap.size := fun i hi => ⟨(hN.low i hi).imp id (fun h => by omega), Nat.lt_of_lt_of_le (hN.ti.olt i hi) (Nat.le_trans hq1.size hq2.size)⟩
   clear hq1 hq2 hk1 hN
   try dsimp only
   gi_wp2
   refine ⟨by simp, .inl ⟨_, _, rfl, run_takeDeferred hd2, ?_⟩⟩
   exact ⟨.bool true, by simp [results, Tryz.results93, go_sem, hk2], true, O1, rfl, ht, ho, fun _ => hj2, fun h => by cases h⟩
  case hstop =>
   rintro D cd W hD ⟨rfl, hj, hc, ht⟩ hd
   have ht2 : Touch O A (W.putObj D (.deferred none)) := ht.quiet (Quiet.putObj (n := w1.heap.size) (.deferred none) hd hD rfl) (by omega)
   have ho : ∀ i, O i → (O i ∨ A.heap.size ≤ i) ∧ i < (W.putObj D (.deferred none)).heap.size := fun i hi => ⟨.inl hi, Nat.lt_of_lt_of_le (HOA.out i hi) ht2.size⟩
   have hq2 := Quiet.putObj (n := w1.heap.size) (.deferred none) hd hD rfl
   have hk2 := hq2.cell_lt hc (by simp only []; omega)
   have hj2 := hJx _ _ hj (hq2.mono (by omega))
   gi_wp2
   refine ⟨by simp, .inl ⟨_, _, rfl, run_takeDeferred hd, ?_⟩⟩
   exact ⟨.bool false, by simp [results, Tryz.results93, go_sem, hk2], false, O, rfl, ht2, ho, (fun h => by cases h), fun _ => hj2⟩
 exact AllReadyH.nil
end Go.Proofs.YtiodjapdiflphaaGreatDoor
/- The truths of a sack, as an iterator. -/
namespace Go.Proofs.YtiodjapdiflphaaGreatDoor
open Go.RowKit
attribute [local go_sem] Oper.semAt_some
theorem tru_all (b : Book) (s : Sack) (rv sv tv : Value) (w0 : World) (sb yb cb l B0 : Nat) (Jx : World → Prop) (hB : BookB b) (hS : SackB s) (hr : RiversAt w0 rv b.rivers) (hs : ShellsAt w0 sv s.shells) (ht : RowOf testC w0 tv s.tests) (hJx : Stable B0 Jx) :
  ∀ f, TruCall b s rv sv tv w0 sb yb cb l B0 Jx f
 | 0 => by
  intro k J O x xv A hJ hxB hlen hx hT hAB h0B hY
  obtain ⟨sa, sc, rfl, _⟩ := hs.open
  exact tru_leaf b s rv tv xv sa sc w0 sb yb cb l B0 k J Jx O x A hJ hJx hlen hx hT hAB (fun v A1 h1 h2 h3 h4 => hY 0 x v A1 O rfl h1 h2 h3 h4)
 | f + 1 => tru_node b s rv sv tv w0 sb yb cb l B0 f Jx hB hS hr hs ht hJx (tru_all b s rv sv tv w0 sb yb cb l B0 Jx hB hS hr hs ht hJx f)
theorem enters_truths : ∀ args w, (callFunc 50 args).run Tryz.prog w = .ok (.enter 50 args) w := enters_of Tryz.func50 (by kernel_rfl) rfl
set_option maxRecDepth 100000 in
set_option maxHeartbeats 4000000 in
theorem truths_iter (b : Book) (s : Sack) (rv sv tv : Value) (w0 W : World) (O0 : Nat → Prop) (hB : BookB b) (hS : SackB s) (hr : RiversAt w0 rv b.rivers) (hs : ShellsAt w0 sv s.shells) (ht : RowOf testC w0 tv s.tests) (hx : Ext w0 W) (hO : ∀ i, O0 i → w0.heap.size ≤ i) :
  IterF Tryz.prog 50 (fun y => #[sackV b rv sv tv] ++ #[y] ++ #[]) StIn (truthsOf b s) O0 W := by
 intro l J Jx hJ hJx hY h0 hO0
 have hr' := hr
 have hs' := hs
 have ht' := ht
 obtain ⟨ra, rc, rfl, _⟩ := hr'.open
 obtain ⟨sa, sc, rfl, _⟩ := hs'.open
 obtain ⟨ta, tc, rfl, _⟩ := RowAt.open ht'
 have hmix : Tryz.prog.follows .mixedOrders = true := by kernel_rfl
 obtain ⟨Aw, hAw⟩ : ∃ Aw, Aw = (((W.alloc (.cells #[.int .i64 b.years, .slice ra b.rivers.length rc, .slice sa s.shells.length sc, .slice ta s.tests.length tc] 89)).alloc (.cells #[.func (.yield l) #[] #[]] 164)).alloc (.cells #[.func (.func 93) #[] #[.pointer (some ⟨W.heap.size, 0, none⟩), .pointer (some ⟨W.heap.size + 1, 0, none⟩), .pointer (some ⟨W.heap.size + 2, 0, none⟩)]] 164)) := ⟨_, rfl⟩
 have hxa : Ext W Aw := by rw [hAw]; exact (((Ext.refl W).alloc _).alloc _).alloc _
 have hza : Aw.heap.size = W.heap.size + 3 := by rw [hAw]; simp
 have HS3 := Lib.hid (fun A (h : Ext Aw A) => (⟨h.cell (by rw [hAw]; go_simp), h.cell (by rw [hAw]; go_simp), h.cell (by rw [hAw]; go_simp), h.cell (by rw [hAw]; go_simp), h.cell (by rw [hAw]; go_simp)⟩ : (fun w' => w'.cell? ⟨W.heap.size, 0, none⟩ = some (.int .i64 b.years) ∧ w'.cell? ⟨W.heap.size, 1, none⟩ = some (.slice ra b.rivers.length rc) ∧ w'.cell? ⟨W.heap.size, 2, none⟩ = some (.slice sa s.shells.length sc) ∧ w'.cell? ⟨W.heap.size, 3, none⟩ = some (.slice ta s.tests.length tc) ∧ w'.cell? ⟨W.heap.size + 2, 0, none⟩ = some (.func (.func 93) #[] #[.pointer (some ⟨W.heap.size, 0, none⟩), .pointer (some ⟨W.heap.size + 1, 0, none⟩), .pointer (some ⟨W.heap.size + 2, 0, none⟩)])) A))
 have HYB := Lib.hid (fun A (h : Ext Aw A) => (h.cell (by rw [hAw]; go_simp) : A.cell? ⟨W.heap.size + 1, 0, none⟩ = some (.func (.yield l) #[] #[])))
 have HBG := Lib.hid (fun A (h : Ext W A) => begin_any b (.slice ra b.rivers.length rc) (.slice sa s.shells.length sc) (.slice ta s.tests.length tc) A hB (hr.ext (hx.trans h)) ⟨_, _, _, rfl⟩ ⟨_, _, _, rfl⟩)
 have HNO := Lib.hid (fun (j : Nat) (hj : W.heap.size ≤ j) => (fun h => by have := hO0 j h; omega : ¬ O0 j))
 have HJ0 := Lib.hid h0
 have HNO := Lib.hid (fun (j : Nat) (hj : W.heap.size ≤ j) => (fun h => by have := hO0 j h; omega : ¬ O0 j))
 have HALL := Lib.hid (fun (wv : Value) (A A' : World) (h0 : Ext Aw A) (h : Ext A A') (hsp : SpansOff (· < A.heap.size) A' wv (b.rivers.map River.grow)) => (by
  have hwA := hxa.trans (h0.trans h)
  have h3 := HS3.out A' (h0.trans h)
  have hzz := h0.size
  have h5 := tru_all b s (.slice ra b.rivers.length rc) (.slice sa s.shells.length sc) (.slice ta s.tests.length tc) w0 W.heap.size (W.heap.size + 1) (W.heap.size + 2) l W.heap.size Jx hB hS hr hs ht hJx s.shells.length 0 J O0 (beginB b) (.agg #[.slice none 0 0, wv]) A' hJ (StateB.begin hB) (by simp [beginB])
   (StIn.begin hB (hsp.less (fun i hi => by have := hO0 i hi; omega))) ⟨hx.trans hwA, h3.1, h3.2.1, h3.2.2.1, h3.2.2.2.1, HYB.out A' (h0.trans h), h3.2.2.2.2, hO, fun i hi => by have := hO0 i hi; have := hwA.size; omega, fun h => by have := hO0 _ h; omega, fun h => by have := hO0 _ h; omega, fun h => by have := hO0 _ h; omega, (hJ 0 O0).out' HJ0.out hwA⟩ hwA.size hx.size
   (fun i z v A1 O1 hz hj hst hsz ho => by rw [Nat.zero_add] at hj ⊢; exact hY i z v A1 O1 hj hz hst hsz ho)
  rw [Nat.zero_add] at h5
  exact h5 : CallsIn Fence.wide 0 Tryz.prog 93 #[.agg #[.slice none 0 0, wv], .pointer (some ⟨W.heap.size, 0, none⟩), .pointer (some ⟨W.heap.size + 1, 0, none⟩), .pointer (some ⟨W.heap.size + 2, 0, none⟩)] A' (YRes O0 (J (truthsOf b s).length) Jx A')))
 clear hY hJ h0 hr hs ht hr' hs' ht'
 unfold sackV at HBG
 unfold sackV
 simp only [List.append_toArray, List.cons_append, List.nil_append, Array.append_empty]
 refine callsIn_wide.2 ?_
 go_enter Tryz.func50, Tryz.ntmps50
 go_upto_region 3 with fail
 rw [← hAw]
 clear hAw
 refine wp_region_held_drew (S := (fun w' => w'.cell? ⟨W.heap.size, 0, none⟩ = some (.int .i64 b.years) ∧ w'.cell? ⟨W.heap.size, 1, none⟩ = some (.slice ra b.rivers.length rc) ∧ w'.cell? ⟨W.heap.size, 2, none⟩ = some (.slice sa s.shells.length sc) ∧ w'.cell? ⟨W.heap.size, 3, none⟩ = some (.slice ta s.tests.length tc) ∧ w'.cell? ⟨W.heap.size + 2, 0, none⟩ = some (.func (.func 93) #[] #[.pointer (some ⟨W.heap.size, 0, none⟩), .pointer (some ⟨W.heap.size + 1, 0, none⟩), .pointer (some ⟨W.heap.size + 2, 0, none⟩)]))) (by kernel_rfl) ?_ (fun hHeld => ?_)
 ·exact HS3.out _ (by repeat (first | exact hxe | exact Ext.refl _ | apply Ext.drew))
 refine hTk (i := 0) (d := some 6) (v := ?_) (fun o ho => ?_) hHeld ?_
 rotate_left
 ·simp only [zA, zB, zD] at ho
  subst ho
  refine ⟨by rfl, fun w hSw => ?_⟩
  (try dsimp only at hSw)
  go_simp
  try with_reducible rfl
 try simp only [Act.put, yA, yB, yC]
 refine hTk (i := 1) (d := some 7) (v := ?_) (fun o ho => ?_) hHeld ?_
 rotate_left
 ·simp only [zA, zB, zC, zD] at ho
  subst ho
  refine ⟨by rfl, fun w hSw => ?_⟩
  (try dsimp only at hSw)
  go_simp
  try with_reducible rfl
 try simp only [Act.put, yA, yB, yC]
 refine wpAnyH_ready (rs := [2]) (by kernel_rfl) (by simp) ?_
 refine held_step (i := 2) (by kernel_rfl) (fun o ho K' hK => ?_) ?_
 ·simp only [zA, zB, zC, zD] at ho
  subst ho
  go_simp
  go_at_call 97
  refine (HBG.out _ (by repeat (first | exact hxa | apply Ext.drew))).mono ?_
  rintro e w1 ⟨wv, rfl, hsp, hx1⟩
  have hxe := (by repeat (first | exact Ext.refl _ | apply Ext.drew) : Ext Aw Aw.drew).trans hx1
  have HSP := Lib.hid hsp
  clear hsp
  try go_simp
  refine hK.out _ _ ?_ (fun hHeld => ?_)
  ·exact HS3.out _ (by repeat (first | exact hxe | exact Ext.refl _ | apply Ext.drew))
  clear hK K'
  try simp only [yA, yB, yC]
  refine wpAnyH_ready (rs := [3]) (by kernel_rfl) (by simp) ?_
  refine held_step (i := 3) (by kernel_rfl) (fun o ho K' hK => ?_) ?_
  ·simp only [zA, zB, zC, zD] at ho
   subst ho
   go_simp
   go_at_call 93
   refine (callsIn_wide.1 (HALL.out wv _ _ (by repeat (first | exact Ext.refl _ | apply Ext.drew)) hx1 HSP.out)).mono ?_
   rintro e w2 ⟨b', O', rfl, hT2, hO2, hj2, hjx2⟩
   try go_simp
   refine hK.out _ _ ?_ (fun hHeld => ?_)
   ·exact ⟨hT2.cell (HS3.out w1 hxe).1 (HNO.out _ (Nat.le_refl _)), hT2.cell (HS3.out w1 hxe).2.1 (HNO.out _ (Nat.le_refl _)), hT2.cell (HS3.out w1 hxe).2.2.1 (HNO.out _ (Nat.le_refl _)), hT2.cell (HS3.out w1 hxe).2.2.2.1 (HNO.out _ (Nat.le_refl _)), hT2.cell (HS3.out w1 hxe).2.2.2.2 (HNO.out _ (by simp only []; omega))⟩
   clear hK K'
   try simp only [yA, yB, yC]
   refine wpAnyH_done (by kernel_rfl) ?_ _
   try simp only [yA, yB, yC]
   go_wp2
   go_end0
   exact ⟨⟨_, rfl⟩, by cases b' with | true => exact .inl ⟨_, hj2 (by trivial)⟩ | false => exact .inr (hjx2 (by trivial))⟩
  exact AllReadyH.nil
 exact AllReadyH.nil
end Go.Proofs.YtiodjapdiflphaaGreatDoor
