/- Closed. -/
import Derived.Test.YtiodjapdiflphaaGreatDoorPats
namespace Go.Proofs.YtiodjapdiflphaaGreatDoor
open Go.RowKit
def hullN (o : Int × Int) (p : Nat) : Int × Int := (min o.1 (manyB p), max o.2 (manyB p))
def closedTo (s : Sack) (l : List Nat) : Int × Int := l.foldl hullN ((s.shells.length : Int), 0)
theorem closedTo_succ {s : Sack} {l : List Nat} {k p : Nat} (h : l[k]? = some p) : closedTo s (l.take (k + 1)) = hullN (closedTo s (l.take k)) p := by
 unfold closedTo; rw [List.take_add_one, h, List.foldl_append]; rfl
theorem manyB_le (p : Nat) : manyB p ≤ 4 := manyTo_le p 4
theorem closedTo_range (s : Sack) (l : List Nat) (hs : s.shells.length ≤ 4) : 0 ≤ (closedTo s l).1 ∧ (closedTo s l).1 ≤ 4 ∧ 0 ≤ (closedTo s l).2 ∧ (closedTo s l).2 ≤ 4 := by
 induction l using rev_ind with
 | h0 => simp [closedTo]; omega
 | h1 l p ih =>
  unfold closedTo at ih ⊢
  rw [List.foldl_append]
  simp only [List.foldl_cons, List.foldl_nil, hullN]
  have := manyB_le p
  omega
def ClosedRes (b : Book) (s : Sack) (w : World) (e : Ending) (w' : World) : Prop :=
 e = .returned (.tuple #[.agg #[.int .i64 (if askN b s true = 0 then (closedOf b s).1 else 0), .int .i64 (if askN b s true = 0 then (closedOf b s).2 else 0)], .int .i64 (askN b s true)]) ∧ Ext w w'
set_option maxRecDepth 100000 in
set_option maxHeartbeats 8000000 in
theorem Closed_no (bv sv : Value) (b : Book) (s : Sack) (w : World) (hb : BookAt w bv b) (hs : SackAt w sv s) (hn : ¬ askN b s true = 0) : Calls Tryz.prog 16 #[bv, sv] w (ClosedRes b s w) := by
 obtain ⟨rv, rfl, hr⟩ := hb
 obtain ⟨sv, tv, rfl, hs, ht⟩ := hs
 have HA := Lib.hid (fun (w1 : World) (hx : Ext w w1) => asked_any rv sv tv b s true w1 (hr.ext hx) (hs.ext hx) (RowOf.ext ht hx))
 unfold AskRes zeroSack at HA
 rw [if_neg hn] at HA
 have hres : ∀ w', Ext w w' → ClosedRes b s w (.returned (.tuple #[.agg #[.int .i64 0, .int .i64 0], .int .i64 (askN b s true)])) w' := fun w' hx => ⟨by rw [if_neg hn, if_neg hn], hx⟩
 obtain ⟨n, hnn⟩ : ∃ n, n = askN b s true := ⟨_, rfl⟩
 rw [← hnn] at hn HA hres
 clear hnn
 have t0 : (n == 0) = false := by simpa using hn
 obtain ⟨ra, rc, rfl, _⟩ := hr.open
 obtain ⟨sa, sc, rfl, hsl, hsm, _⟩ := hs.open
 obtain ⟨ta, tc, rfl, _⟩ := RowAt.open ht
 have HRES := Lib.hid hres
 have HX0 := Lib.hid ((((Ext.refl w).alloc _).alloc _).alloc _ : Ext w (((w.alloc (.cells #[.int .i64 b.years, .slice ra b.rivers.length rc] 24)).alloc (.cells #[.slice sa s.shells.length sc, .slice ta s.tests.length tc] 28)).alloc (.cells #[.int .i64 0, .int .i64 0] 52)))
 clear hr hs ht hres
 go_enter Tryz.func16, Tryz.ntmps16
 go_wp2_with (go_at_call 35; refine (HA.out _ HX0.out).mono ?_; rintro e w2 ⟨rfl, hx2⟩; have c0 := hx2.cell (a := ⟨w.heap.size + 2, 0, none⟩) (v := .int .i64 0) (by go_simp); have c1 := hx2.cell (a := ⟨w.heap.size + 2, 1, none⟩) (v := .int .i64 0) (by go_simp); have f0 : w2.frozen? ⟨w.heap.size + 2, 0, none⟩ = false := (hx2.frozen (a := ⟨w.heap.size + 2, 0, none⟩) (by simp)).trans (by go_simp); have f1 : w2.frozen? ⟨w.heap.size + 2, 1, none⟩ = false := (hx2.frozen (a := ⟨w.heap.size + 2, 1, none⟩) (by simp)).trans (by go_simp); have a0 := (hx2.alloc (.cells #[.int .i64 0, .slice none 0 0, .slice none 0 0, .slice none 0 0] 89)).cell (a := ⟨w.heap.size + 2, 0, none⟩) (v := .int .i64 0) (by go_simp); have a1 := (hx2.alloc (.cells #[.int .i64 0, .slice none 0 0, .slice none 0 0, .slice none 0 0] 89)).cell (a := ⟨w.heap.size + 2, 1, none⟩) (v := .int .i64 0) (by go_simp); have b0 : (w2.alloc (.cells #[.int .i64 0, .slice none 0 0, .slice none 0 0, .slice none 0 0] 89)).frozen? ⟨w.heap.size + 2, 0, none⟩ = false := ((hx2.alloc (.cells #[.int .i64 0, .slice none 0 0, .slice none 0 0, .slice none 0 0] 89)).frozen (a := ⟨w.heap.size + 2, 0, none⟩) (by simp)).trans (by go_simp); have b1 : (w2.alloc (.cells #[.int .i64 0, .slice none 0 0, .slice none 0 0, .slice none 0 0] 89)).frozen? ⟨w.heap.size + 2, 1, none⟩ = false := ((hx2.alloc (.cells #[.int .i64 0, .slice none 0 0, .slice none 0 0, .slice none 0 0] 89)).frozen (a := ⟨w.heap.size + 2, 1, none⟩) (by simp)).trans (by go_simp))
 refine bodyPost_ret (v := .tuple #[.agg #[.int .i64 0, .int .i64 0], .int .i64 n]) (by simp [results, Tryz.results16, go_sem, *]) rfl (HRES.out _ ?_)
 repeat (first | exact HX0.out.trans hx2 | apply Ext.alloc | refine Ext.setCell ?_ (by simp only []; omega) _)
set_option maxRecDepth 100000 in
set_option maxHeartbeats 8000000 in
theorem Closed_yes (bv sv : Value) (b : Book) (s : Sack) (w : World) (hb : BookAt w bv b) (hs : SackAt w sv s) (hn : askN b s true = 0) : Calls Tryz.prog 16 #[bv, sv] w (ClosedRes b s w) := by
 obtain ⟨rv, rfl, hr⟩ := hb
 obtain ⟨sv, tv, rfl, hs, ht⟩ := hs
 have HA := Lib.hid (fun (w1 : World) (hx : Ext w w1) => asked_any rv sv tv b s true w1 (hr.ext hx) (hs.ext hx) (RowOf.ext ht hx))
 obtain ⟨hB, hS, _, hpo⟩ := asked_cases hn
 have HPT := Lib.hid (fun (w1 : World) (hx : Ext w w1) => patterns_any b s rv sv tv w1 (bookB_of hB) (sackB_of hS) (hr.ext hx) (hs.ext hx) (RowOf.ext ht hx) hpo)
 unfold AskRes sackV at HA
 unfold sackV at HPT
 rw [if_pos hn, hn] at HA
 have hs4 := (sackB_of hS).n2
 have hres : ∀ (m : Int × Int) w', closedTo s (patternsOf b s) = m → Ext w w' → ClosedRes b s w (.returned (.tuple #[.agg #[.int .i64 m.1, .int .i64 m.2], .int .i64 0])) w' := fun m w' hm hx => ⟨by rw [if_pos hn, if_pos hn, hn, ← hm]; rfl, hx⟩
 have HPL := Lib.hid (fun p (h : p ∈ patternsOf b s) => patterns_lt h)
 have HRES := Lib.hid hres
 clear hres hn hpo hB hS
 generalize patternsOf b s = l at HPT HRES HPL
 obtain ⟨ra, rc, rfl, _⟩ := hr.open
 obtain ⟨sa, sc, rfl, hsl, hsm, _⟩ := hs.open
 obtain ⟨ta, tc, rfl, _⟩ := RowAt.open ht
 have hmix : Tryz.prog.follows .mixedOrders = true := by kernel_rfl
 have HX0 := Lib.hid ((((Ext.refl w).alloc _).alloc _).alloc _ : Ext w (((w.alloc (.cells #[.int .i64 b.years, .slice ra b.rivers.length rc] 24)).alloc (.cells #[.slice sa s.shells.length sc, .slice ta s.tests.length tc] 28)).alloc (.cells #[.int .i64 0, .int .i64 0] 52)))
 have HS := Lib.hid (fun W (h : Ext (((w.alloc (.cells #[.int .i64 b.years, .slice ra b.rivers.length rc] 24)).alloc (.cells #[.slice sa s.shells.length sc, .slice ta s.tests.length tc] 28)).alloc (.cells #[.int .i64 0, .int .i64 0] 52)) W) => (⟨h.cell (by go_simp), (h.cell (by go_simp)), (h.cell (by go_simp)), (h.frozen (by simp)).trans (by go_simp), (h.frozen (by simp)).trans (by go_simp)⟩ : W.cell? ⟨w.heap.size + 1, 0, none⟩ = some (.slice sa s.shells.length sc) ∧ W.cell? ⟨w.heap.size + 2, 0, none⟩ = some (.int .i64 0) ∧ W.cell? ⟨w.heap.size + 2, 1, none⟩ = some (.int .i64 0) ∧ W.frozen? ⟨w.heap.size + 2, 0, none⟩ = false ∧ W.frozen? ⟨w.heap.size + 2, 1, none⟩ = false))
 clear hr hs ht
 go_enter Tryz.func16, Tryz.ntmps16
 go_wp2_with (first
  | (go_at_call 35; refine (HA.out _ HX0.out).mono ?_; rintro e w2 ⟨rfl, hx2⟩; have z0 := (HS.out _ (hx2.alloc (.cells #[.int .i64 b.years, .slice ra b.rivers.length rc, .slice sa s.shells.length sc, .slice ta s.tests.length tc] 89))).1)
  | (go_at_call 37; refine (HPT.out _ ?_).mono ?_; (· repeat (first | exact HX0.out.trans hx2 | apply Ext.alloc)); rintro e w3 ⟨v, rfl, hx3, hpi, hof⟩; obtain ⟨pa, pc, rfl, p1, p2, p3⟩ := hpi.open; have HP3 := Lib.hid p3; have HOF := Lib.hid hof; clear p3 hof hpi))
 have hb8 : Box2 w3 (w2.heap.size + 1) (.int .i64 s.shells.length) (.int .i64 0) := Box2.ext (by have h := Box2.new (w2.alloc (.cells #[.int .i64 b.years, .slice ra b.rivers.length rc, .slice sa s.shells.length sc, .slice ta s.tests.length tc] 89)) (.int .i64 s.shells.length) (.int .i64 0) 52; rwa [World.size_alloc] at h) hx3
 have hx23 := ((hx2.alloc (.cells #[.int .i64 b.years, .slice ra b.rivers.length rc, .slice sa s.shells.length sc, .slice ta s.tests.length tc] 89)).alloc (.cells #[.int .i64 s.shells.length, .int .i64 0] 52)).trans hx3
 obtain ⟨_, r0, r1, r2, r3⟩ := HS.out _ hx23
 have hb4 : Box2 w3 (w.heap.size + 2) (.int .i64 0) (.int .i64 0) := ⟨r0, r1, r2, r3⟩
 have hz2 : w.heap.size + 3 ≤ w2.heap.size := by have := hx2.size; simpa using this
 have hx03 := HX0.out.trans hx23
 have hl : (natsI l).length = l.length := by simp [natsI]
 rw [hl] at HP3 HOF p1 ⊢
 have HPP : Hid (∀ k, k < l.length → ∃ pb po p, pa = some ⟨pb, po, none⟩ ∧ Hid (l[k]? = some p) ∧ w3.cell? ⟨pb, po + k, none⟩ = some (.int .i64 (p : Int)) ∧ pb ≠ w2.heap.size + 1) := fun k hk => by
  obtain ⟨pb, po, x, rfl, hx, hc⟩ := HP3.out k (by omega)
  have h1 : (natsI l)[k]? = some ((l[k] : Nat) : Int) := by unfold natsI; rw [List.getElem?_map, List.getElem?_eq_getElem hk]; rfl
  rw [hx.out] at h1
  cases h1
  refine ⟨pb, po, l[k], rfl, (by unfold Hid; rw [List.getElem?_eq_getElem hk]), hc, fun e => HOF.out ⟨pb, po, none⟩ _ _ rfl ?_⟩
  simp only
  rw [e]; simp
 clear hl HP3 HOF r0 r1 r2 r3 z0
 go_loopw [28] (fun i wr => ∃ (k : Nat) (m : Int × Int), k ≤ l.length ∧ i = .int .i64 k ∧ Ext w wr ∧ Touch (· = w2.heap.size + 1) w3 wr ∧ Box2 wr (w2.heap.size + 1) (.int .i64 m.1) (.int .i64 m.2) ∧ Hid (closedTo s (l.take k) = m)) (fun i _ => l.length - (intOf i).toNat)
 case atStart => exact ⟨0, ((s.shells.length : Int), 0), Nat.zero_le _, rfl, hx03, Touch.refl _ _, hb8, rfl⟩
 case round =>
  obtain ⟨k, m, hk, rfl, hxr, htr, hbr, hm⟩ := hrel
  by_cases hlt : k < l.length
  ·obtain ⟨pb, po, p, rfl, hp, hc, hne⟩ := HPP.out k hlt
   have t1 : decide ((k : Int) < (l.length : Int)) = true := by simpa using hlt
   have i1 : (0 : Int) ≤ (k : Int) := by omega
   have i2 : (k : Int) < (l.length : Int) := by omega
   have q0 := htr.cell hc hne
   have hpl := HPL.out p (List.mem_of_getElem? hp.out)
   have HMY := Lib.hid (fun w1 => many_any p w1 (by omega))
   have hrng := closedTo_range s (l.take k) hs4
   rw [hm.out] at hrng
   have hsu := closedTo_succ (s := s) hp.out
   rw [hm.out] at hsu
   have hml := manyB_le p
   have HXR := Lib.hid hxr
   have HTR := Lib.hid htr
   have HBR := Lib.hid hbr
   obtain ⟨g0, g1, g2, g3⟩ := hbr
   obtain ⟨mp, hmp⟩ : ∃ mp, manyB p = mp := ⟨_, rfl⟩
   unfold hullN at hsu
   rw [hmp] at hsu hml HMY
   have HSU := Lib.hid hsu
   clear hsu hmp hxr htr hc
   go_upto_region 8 with fail
   refine wp_region_noPanic ?_
   refine wp_region_any (by kernel_rfl) (wpAny_of_till (z := 11) (S := (fun w' => w'.cell? ⟨w2.heap.size + 1, 0, none⟩ = some (.int .i64 m.1) ∧ w'.cell? ⟨w2.heap.size + 1, 1, none⟩ = some (.int .i64 m.2))) _ _ _ _ ?_)
   change wpTill _ _ _ _ _ _ _ _ _ wr.drew
   have hS0 := (show (World.drew wr).cell? ⟨w2.heap.size + 1, 0, none⟩ = some (.int .i64 m.1) ∧ (World.drew wr).cell? ⟨w2.heap.size + 1, 1, none⟩ = some (.int .i64 m.2) from ⟨g0, g1⟩)
   refine till_at (i := 0) (d := some 32) (v := ?_) (by kernel_rfl) (by kernel_rfl) (by kernel_rfl) (by kernel_rfl) (by kernel_rfl) (fun _ _ _ h => h) (fun o ho => ?_) hS0 ?_
   rotate_left
   ·simp only [zA, zB, zD] at ho
    subst ho
    refine Or.inl ⟨by rfl, fun w' hSw => ?_⟩
    obtain ⟨hSw0, hSw1⟩ := hSw
    go_simp
    try with_reducible rfl
   try simp only [Act.put, yA, yB, yC]
   refine till_at (i := 1) (d := some 33) (v := ?_) (by kernel_rfl) (by kernel_rfl) (by kernel_rfl) (by kernel_rfl) (by kernel_rfl) (fun _ _ _ h => h) (fun o ho => ?_) hS0 ?_
   rotate_left
   ·simp only [zA, zB, zC, zD] at ho
    subst ho
    refine Or.inl ⟨by rfl, fun w' hSw => ?_⟩
    obtain ⟨hSw0, hSw1⟩ := hSw
    go_simp
    try with_reducible rfl
   try simp only [Act.put, yA, yB, yC]
   refine till_at (i := 2) (d := some 34) (v := ?_) (by kernel_rfl) (by kernel_rfl) (by kernel_rfl) (by kernel_rfl) (by kernel_rfl) (fun _ _ _ h => h) (fun o ho => ?_) hS0 ?_
   rotate_left
   ·simp only [zA, zB, zC, zD] at ho
    subst ho
    refine Or.inl ⟨by rfl, fun w' hSw => ?_⟩
    obtain ⟨hSw0, hSw1⟩ := hSw
    go_simp
    try with_reducible rfl
   try simp only [Act.put, yA, yB, yC]
   refine till_at (i := 5) (d := some 37) (v := ?_) (by kernel_rfl) (by kernel_rfl) (by kernel_rfl) (by kernel_rfl) (by kernel_rfl) (fun _ _ _ h => h) (fun o ho => ?_) hS0 ?_
   rotate_left
   ·simp only [zA, zB, zC, zD] at ho
    subst ho
    refine Or.inl ⟨by rfl, fun w' hSw => ?_⟩
    obtain ⟨hSw0, hSw1⟩ := hSw
    go_simp
    try with_reducible rfl
   try simp only [Act.put, yA, yB, yC]
   refine till_at (i := 6) (d := some 38) (v := ?_) (by kernel_rfl) (by kernel_rfl) (by kernel_rfl) (by kernel_rfl) (by kernel_rfl) (fun _ _ _ h => h) (fun o ho => ?_) hS0 ?_
   rotate_left
   ·simp only [zA, zB, zC, zD] at ho
    subst ho
    refine Or.inl ⟨by rfl, fun w' hSw => ?_⟩
    obtain ⟨hSw0, hSw1⟩ := hSw
    go_simp
    try with_reducible rfl
   try simp only [Act.put, yA, yB, yC]
   refine till_at (i := 7) (d := some 39) (v := ?_) (by kernel_rfl) (by kernel_rfl) (by kernel_rfl) (by kernel_rfl) (by kernel_rfl) (fun _ _ _ h => h) (fun o ho => ?_) hS0 ?_
   rotate_left
   ·simp only [zA, zB, zC, zD] at ho
    subst ho
    refine Or.inl ⟨by rfl, fun w' hSw => ?_⟩
    obtain ⟨hSw0, hSw1⟩ := hSw
    go_simp
    try with_reducible rfl
   try simp only [Act.put, yA, yB, yC]
   refine till_step (i := 3) (by kernel_rfl) (by kernel_rfl) (fun o ho K' hK => ?_)
   simp only [zA, zB, zC, zD] at ho
   subst ho
   go_simp
   go_at_call 52
   refine (HMY.out _).mono ?_
   rintro e w' ⟨rfl, rfl⟩
   try go_simp
   have hS3 := (show (World.drew wr).cell? ⟨w2.heap.size + 1, 0, none⟩ = some (.int .i64 m.1) ∧ (World.drew wr).cell? ⟨w2.heap.size + 1, 1, none⟩ = some (.int .i64 m.2) from ⟨g0, g1⟩)
   refine hK.out _ _ (fun _ => hS3) (fun _ => ?_)
   clear hK K'
   try simp only [Act.put, yA, yB, yC]
   refine till_at (i := 4) (d := some 36) (v := ?_) (by kernel_rfl) (by kernel_rfl) (by kernel_rfl) (by kernel_rfl) (by kernel_rfl) (fun _ _ _ h => h) (fun o ho => ?_) hS3 ?_
   rotate_left
   ·simp only [zA, zB, zC, zD] at ho
    subst ho
    refine Or.inl ⟨by rfl, fun w' hSw => ?_⟩
    obtain ⟨hSw0, hSw1⟩ := hSw
    go_simp
    try with_reducible rfl
   try simp only [Act.put, yA, yB, yC]
   refine till_step (i := 8) (by kernel_rfl) (by kernel_rfl) (fun o ho K' hK => ?_)
   simp only [zA, zB, zC, zD] at ho
   subst ho
   go_simp
   go_at_call 52
   refine (HMY.out _).mono ?_
   rintro e w' ⟨rfl, rfl⟩
   try go_simp
   have hS8 := (show (World.drew wr).cell? ⟨w2.heap.size + 1, 0, none⟩ = some (.int .i64 m.1) ∧ (World.drew wr).cell? ⟨w2.heap.size + 1, 1, none⟩ = some (.int .i64 m.2) from ⟨g0, g1⟩)
   refine hK.out _ _ (fun _ => hS8) (fun _ => ?_)
   clear hK K'
   try simp only [Act.put, yA, yB, yC]
   refine till_at (i := 9) (d := some 41) (v := ?_) (by kernel_rfl) (by kernel_rfl) (by kernel_rfl) (by kernel_rfl) (by kernel_rfl) (fun _ _ _ h => h) (fun o ho => ?_) hS8 ?_
   rotate_left
   ·simp only [zA, zB, zC, zD] at ho
    subst ho
    refine Or.inl ⟨by rfl, fun w' hSw => ?_⟩
    obtain ⟨hSw0, hSw1⟩ := hSw
    go_simp
    try with_reducible rfl
   try simp only [Act.put, yA, yB, yC]
   refine till_at (i := 10) (d := some 42) (v := ?_) (by kernel_rfl) (by kernel_rfl) (by kernel_rfl) (by kernel_rfl) (by kernel_rfl) (fun _ _ _ h => h) (fun o ho => ?_) hS8 ?_
   rotate_left
   ·simp only [zA, zB, zC, zD] at ho
    subst ho
    refine Or.inl ⟨by rfl, fun w' hSw => ?_⟩
    obtain ⟨hSw0, hSw1⟩ := hSw
    go_simp
    try with_reducible rfl
   try simp only [Act.put, yA, yB, yC]
   refine till_step (i := 11) (by kernel_rfl) (by kernel_rfl) (fun o ho K' hK => ?_)
   simp only [zA, zB, zC, zD] at ho
   subst ho
   go_simp
   refine hK.out _ _ (fun h => absurd rfl h) (fun _ => ?_)
   clear hK K'
   try simp only [Act.put, yA, yB, yC]
   refine till_done (by kernel_rfl) ?_ _
   refine NoPanic.normal ?_
   try simp only [Act.put, yA, yB, yC]
   go_wp2
   refine ⟨⟨k + 1, (min m.1 mp, max m.2 mp), by omega, by go_num, ?_, ?_, ?_, HSU.out⟩, by simp [intOf]; omega⟩
   ·exact ((HXR.out.setCell (p := ⟨w2.heap.size + 1, 0, none⟩) (by simp only []; omega) _).setCell (p := ⟨w2.heap.size + 1, 1, none⟩) (by simp only []; omega) _).drew
   ·exact ((HTR.out.trans (Touch.setCell (a := ⟨w2.heap.size + 1, 0, none⟩) _ rfl)).trans (Touch.setCell (a := ⟨w2.heap.size + 1, 1, none⟩) _ rfl)).trans (Touch.of_ext (Ext.refl _).drew)
   ·exact (HBR.out.set _ _).ext (Ext.refl _).drew
  ·have t1 : decide ((k : Int) < (l.length : Int)) = false := by simpa using hlt
   have hkl : l.take k = l := List.take_of_length_le (by omega)
   rw [hkl] at hm
   have HF := Lib.hid (HRES.out m)
   have HM := Lib.hid hm.out
   have hne : ¬ w.heap.size + 2 = w2.heap.size + 1 := by omega
   obtain ⟨v0, v1, v2, v3⟩ := hb4.touch htr hne
   obtain ⟨g0, g1, g2, g3⟩ := hbr
   have HXR := Lib.hid hxr
   clear hkl hm hb8 hb4 htr hxr
   go_wp2
   refine bodyPost_ret (v := .tuple #[.agg #[.int .i64 m.1, .int .i64 m.2], .int .i64 0]) (by simp [results, Tryz.results16, go_sem, *]) rfl (HF.out _ HM.out ?_)
   repeat (first | exact HXR.out | apply Ext.alloc | refine Ext.setCell ?_ (by simp only []; omega) _)
theorem Closed_any (bv sv : Value) (b : Book) (s : Sack) (w : World) (hb : BookAt w bv b) (hs : SackAt w sv s) : Calls Tryz.prog 16 #[bv, sv] w (ClosedRes b s w) := by
 by_cases hn : askN b s true = 0
 ·exact Closed_yes bv sv b s w hb hs hn
 ·exact Closed_no bv sv b s w hb hs hn
end Go.Proofs.YtiodjapdiflphaaGreatDoor
