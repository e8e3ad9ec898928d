/- Could, Word. -/
import Derived.Test.YtiodjapdiflphaaGreatDoorCould
namespace Go.Proofs.YtiodjapdiflphaaGreatDoor
open Go.RowKit
theorem sackB_one {s : Shell} (h : ShellB s) : SackB (oneOf s) :=
 ⟨by simp [oneOf], by simp [oneOf], by simp [oneOf], fun x hx => by simp [oneOf] at hx; subst hx; exact h, fun t ht => by simp [oneOf] at ht⟩
theorem one_any (b : Book) (rv gv : Value) (s : Shell) (w : World) (hr : IsSlice rv) (hg : IntsAt w gv s.rings) :
  Calls Tryz.prog 56 #[.agg #[.int .i64 b.years, rv], .agg #[gv, .int .i64 s.off]] w fun e w' => ∃ m, e = .returned (sackV b rv (.slice (some ⟨m, 0, none⟩) 1 1) (.slice none 0 0)) ∧ Ext w w' ∧ ShellsAt w' (.slice (some ⟨m, 0, none⟩) 1 1) [s] := by
 obtain ⟨ra, rn, rc, rfl⟩ := hr
 obtain ⟨ga, gc, rfl, _⟩ := hg.open
 have HG := Lib.hid hg
 clear hg
 unfold sackV
 go_enter Tryz.func56, Tryz.ntmps56
 go_wp2
 refine bodyPost_ret (by simp [results, Tryz.results56, go_sem]; rfl) rfl ?_
 refine ⟨_, rfl, ?_, ?_⟩
 ·repeat (first | exact Ext.refl _ | apply Ext.alloc | refine Ext.setCell ?_ (by simp only []; omega) _)
 ·have hx : ∀ W, Ext w W → IntsAt W (.slice ga s.rings.length gc) s.rings := fun W h => HG.out.ext h
  refine ⟨[(.slice ga s.rings.length gc, s)], rfl, ⟨_, 1, rfl, Nat.le_refl _, by decide, (fun h => by cases h), fun j u hj => ?_⟩, fun x hx' => ?_⟩
  ·match j with
   | 0 => simp [shellC] at hj; subst hj; exact ⟨_, 0, rfl, by go_simp⟩
   | 1 => simp [shellC] at hj; subst hj; exact ⟨_, 0, rfl, by go_simp⟩
   | j + 2 => simp [shellC] at hj
  ·rw [List.mem_singleton] at hx'
   subst hx'
   exact hx _ (by repeat (first | exact Ext.refl _ | apply Ext.alloc | refine Ext.setCell ?_ (by simp only []; omega) _))
/-! ### verdict, word -/
theorem countP_succ {l : List Org} {b : Book} {k : Nat} {o : Org} (h : l[k]? = some o) : (l.take (k + 1)).countP (closedB b) = (l.take k).countP (closedB b) + (if closedB b o then 1 else 0) := by
 rw [List.take_add_one, h, List.countP_append]; simp
/-- The word of a list, by its verdict. -/
def verdictV (n m : Nat) : Value := if n = 0 then .iface 175 (.int .i64 m) else if n = m then .iface 173 (.int .i64 n) else .iface 174 (.int .i64 m)
set_option maxRecDepth 100000 in
set_option maxHeartbeats 2000000 in
theorem verdict_any (b : Book) (rv sv tv lv : Value) (l : List Org) (w : World) (hB : BookB b) (hr : RiversAt w rv b.rivers) (hs : IsSlice sv) (ht : IsSlice tv) (hl : PairsAt w lv l) (hm : ∀ o, o ∈ l → ∃ r y : Nat, o = ((r : Int), (y : Int)) ∧ r < b.rivers.length ∧ (y : Int) < b.years) :
  Calls Tryz.prog 59 #[sackV b rv sv tv, lv] w fun e w' => e = .returned (verdictV (l.countP (closedB b)) l.length) ∧ Ext w w' := by
 obtain ⟨la, lc, rfl, l1, l2, l3⟩ := hl.open
 have HCL := Lib.hid (fun (r y : Nat) (w1 : World) (h : Ext w w1) (h1 : r < b.rivers.length) (h2 : (y : Int) < b.years) => closed_any b rv sv tv r y w1 hB (hr.ext h) hs ht h1 h2)
 obtain ⟨ra, rc, rfl, _⟩ := hr.open
 obtain ⟨sa, sn, sc, rfl⟩ := hs
 obtain ⟨ta, tn, tc, rfl⟩ := ht
 have HM := Lib.hid hm
 have hx0 : Ext w (w.alloc (.cells #[.int .i64 b.years, .slice ra b.rivers.length rc, .slice sa sn sc, .slice ta tn tc] 89)) := (Ext.refl w).alloc _
 have HX0 := Lib.hid hx0
 have HS := Lib.hid (fun W (h : Ext (w.alloc (.cells #[.int .i64 b.years, .slice ra b.rivers.length rc, .slice sa sn sc, .slice ta tn tc] 89)) W) => (⟨h.cell (by go_simp), h.cell (by go_simp), h.cell (by go_simp), h.cell (by go_simp)⟩ :
  W.cell? ⟨w.heap.size, 0, none⟩ = some (.int .i64 b.years) ∧ W.cell? ⟨w.heap.size, 1, none⟩ = some (.slice ra b.rivers.length rc) ∧ W.cell? ⟨w.heap.size, 2, none⟩ = some (.slice sa sn sc) ∧ W.cell? ⟨w.heap.size, 3, none⟩ = some (.slice ta tn tc)))
 have HL := Lib.hid l3
 clear hr hl hm l3 hx0
 unfold sackV at HCL ⊢
 go_enter Tryz.func59, Tryz.ntmps59
 go_wp2
 go_loopw [5, 10] (fun n i wr => ∃ k : Nat, k ≤ l.length ∧ i = .int .i64 k ∧ n = .int .i64 ((l.take k).countP (closedB b)) ∧ Ext (w.alloc (.cells #[.int .i64 b.years, .slice ra b.rivers.length rc, .slice sa sn sc, .slice ta tn tc] 89)) wr) (fun _ i _ => l.length - (intOf i).toNat)
 case atStart => exact ⟨0, Nat.zero_le _, rfl, rfl, Ext.refl _⟩
 case round =>
  obtain ⟨k, hk, rfl, rfl, hxr⟩ := hrel
  by_cases hlt : k < l.length
  ·obtain ⟨lb, lo, y, rfl, hy, y0, y1⟩ := HL.out k hlt
   obtain ⟨r, yy, rfl, h1, h2⟩ := HM.out y (List.mem_of_getElem? hy.out)
   have t1 : decide ((k : Int) < (l.length : Int)) = true := by simpa using hlt
   have i1 : (0 : Int) ≤ (k : Int) := by omega
   have i2 : (k : Int) < (l.length : Int) := by omega
   have z0 := (HX0.out.trans hxr).cell y0
   have z1 := (HX0.out.trans hxr).cell y1
   have hx7 := hxr.alloc (.cells #[.int .i64 r, .int .i64 yy] 84)
   obtain ⟨s0, s1, s2, s3⟩ := HS.out _ hx7
   have HC := Lib.hid (HCL.out r yy _ (HX0.out.trans hx7) h1 h2)
   have hcs := countP_succ (b := b) hy.out
   have hcl : (l.take k).countP (closedB b) ≤ k := Nat.le_trans List.countP_le_length (by rw [List.length_take]; omega)
   generalize hN : (l.take k).countP (closedB b) = N at hcs hcl
   have HN := Lib.hid hN
   have HX7 := Lib.hid hx7
   clear hN hx7 hxr y0 y1
   cases hcb : closedB b ((r : Int), (yy : Int)) with
   | true =>
    rw [hcb] at HC hcs
    have HCS := Lib.hid hcs
    clear hcs hcb
    go_wp2_with (go_at_call 70; refine HC.out.mono ?_; rintro e w2 ⟨rfl, hx2⟩)
    exact ⟨⟨k + 1, by omega, by go_num, by rw [HCS.out, if_pos (by trivial)]; go_num, HX7.out.trans hx2⟩, by simp [intOf]; omega⟩
   | false =>
    rw [hcb] at HC hcs
    have HCS := Lib.hid hcs
    clear hcs hcb
    go_wp2_with (go_at_call 70; refine HC.out.mono ?_; rintro e w2 ⟨rfl, hx2⟩)
    exact ⟨⟨k + 1, by omega, by go_num, by rw [HCS.out, if_neg (by simp)]; rfl, HX7.out.trans hx2⟩, by simp [intOf]; omega⟩
  ·have t1 : decide ((k : Int) < (l.length : Int)) = false := by simpa using hlt
   have hkl : l.take k = l := List.take_of_length_le (by omega)
   rw [hkl]
   have HX := Lib.hid (HX0.out.trans hxr)
   clear hkl hxr
   have hv : ∀ n m, verdictV n m = if n = 0 then .iface 175 (.int .i64 m) else if n = m then .iface 173 (.int .i64 n) else .iface 174 (.int .i64 m) := fun _ _ => rfl
   have HVV := Lib.hid (hv (l.countP (closedB b)) l.length)
   clear hv
   obtain ⟨N, hN⟩ : ∃ N, l.countP (closedB b) = N := ⟨_, rfl⟩
   rw [hN] at HVV ⊢
   have HNN := Lib.hid hN
   clear hN
   by_cases h0 : N = 0
   ·subst h0
    go_wp2
    go_ret
    exact ⟨by first | (rw [HNN.out, HVV.out]; rfl) | (rw [HVV.out]; rfl), HX.out⟩
   ·have t2 : ((N : Int) == 0) = false := by simp; omega
    rw [if_neg h0] at HVV
    by_cases h2 : N = l.length
    ·rw [if_pos h2] at HVV
     have t3 : ((N : Int) == (l.length : Int)) = true := by simp; omega
     clear h2 h0
     go_wp2
     go_ret
     exact ⟨by first | (rw [HNN.out, HVV.out]; rfl) | (rw [HVV.out]; rfl), HX.out⟩
    ·rw [if_neg h2] at HVV
     have t3 : ((N : Int) == (l.length : Int)) = false := by simp; omega
     clear h2 h0
     go_wp2
     go_ret
     exact ⟨by first | (rw [HNN.out, HVV.out]; rfl) | (rw [HVV.out]; rfl), HX.out⟩
set_option maxRecDepth 100000 in
set_option maxHeartbeats 1000000 in
theorem word_any (n m : Nat) (w : World) : Calls Tryz.prog 58 #[verdictV n m] w fun e w' => e = .returned (.int .i64 (if n = 0 then 1 else if n = m then 3 else 2)) ∧ w = w' := by
 have a1 : ∀ wq, (Instr.typeAssert (.iface 175 (.int .i64 m)) 121 173 true).run Tryz.prog wq = .ok (.tuple #[.int .i64 0, .bool false]) wq := fun wq => by kernel_rfl
 have a2 : ∀ wq, (Instr.typeAssert (.iface 175 (.int .i64 m)) 121 174 true).run Tryz.prog wq = .ok (.tuple #[.int .i64 0, .bool false]) wq := fun wq => by kernel_rfl
 have a3 : ∀ wq, (Instr.typeAssert (.iface 173 (.int .i64 n)) 121 173 true).run Tryz.prog wq = .ok (.tuple #[.int .i64 n, .bool true]) wq := fun wq => by kernel_rfl
 have a4 : ∀ wq, (Instr.typeAssert (.iface 174 (.int .i64 m)) 121 173 true).run Tryz.prog wq = .ok (.tuple #[.int .i64 0, .bool false]) wq := fun wq => by kernel_rfl
 have a5 : ∀ wq, (Instr.typeAssert (.iface 174 (.int .i64 m)) 121 174 true).run Tryz.prog wq = .ok (.tuple #[.int .i64 m, .bool true]) wq := fun wq => by kernel_rfl
 unfold verdictV
 by_cases h0 : n = 0
 ·rw [if_pos h0, if_pos h0]
  go_enter Tryz.func58, Tryz.ntmps58
  go_wp2
  go_ret
  exact ⟨rfl, rfl⟩
 ·rw [if_neg h0, if_neg h0]
  by_cases h1 : n = m
  ·rw [if_pos h1, if_pos h1]
   clear h1 h0
   go_enter Tryz.func58, Tryz.ntmps58
   go_wp2
   go_ret
   exact ⟨rfl, rfl⟩
  ·rw [if_neg h1, if_neg h1]
   clear h1 h0
   go_enter Tryz.func58, Tryz.ntmps58
   go_wp2
   go_ret
   exact ⟨rfl, rfl⟩
/-! ### Could, Word -/
def couldArg (b : Book) (s : Shell) : Bool := isBookB b && isShellB s
def CouldRes (b : Book) (s : Shell) (w : World) (e : Ending) (w' : World) : Prop :=
 ∃ v, e = .returned (.tuple #[v, .int .i64 (if couldArg b s then 0 else 2)]) ∧ Ext w w' ∧ PairsAt w' v (if couldArg b s then couldOf b (oneOf s) 0 else [])
def WordRes (b : Book) (s : Shell) (w : World) (e : Ending) (w' : World) : Prop :=
 e = .returned (.tuple #[.int .i64 (if couldArg b s then wordOf b (couldOf b (oneOf s) 0) else 0), .int .i64 (if couldArg b s then 0 else 2)]) ∧ Ext w w'
theorem couldOf_mem {b : Book} {s : Sack} (hB : BookB b) {i : Nat} (n1 : 1 ≤ (shellAt s i).rings.length) : ∀ o, o ∈ couldOf b s i → ∃ r y : Nat, o = ((r : Int), (y : Int)) ∧ r < b.rivers.length ∧ (y : Int) < b.years := fun o ho => by
 unfold couldOf at ho
 obtain ⟨r, y, h1, h2, h3, _⟩ := originsOf_mem hB n1 (List.mem_filter.1 ho).1
 exact ⟨r, y, h1, h2, h3⟩
set_option maxRecDepth 100000 in
set_option maxHeartbeats 4000000 in
theorem Could_any (bv sv : Value) (b : Book) (s : Shell) (w : World) (hb : BookAt w bv b) (hs : ShellAt w sv s) : Calls Tryz.prog 22 #[bv, sv] w (CouldRes b s w) := by
 have HB := Lib.hid (fun w1 (hx : Ext w w1) => isBook_any bv b w1 (hb.ext hx))
 have HH := Lib.hid (fun w1 (hx : Ext w w1) => isShell_any sv s w1 (hs.ext hx))
 obtain ⟨rv, rfl, hr⟩ := hb
 obtain ⟨gv, rfl, hg⟩ := hs
 have HC := Lib.hid (fun (m : Nat) (w1 : World) (hx : Ext w w1) (h1 : isBookB b = true) (h2 : isShellB s = true) (h : ShellsAt w1 (.slice (some ⟨m, 0, none⟩) 1 1) [s]) => could_any b (oneOf s) rv (.slice (some ⟨m, 0, none⟩) 1 1) (.slice none 0 0) 0 w1 (bookB_of h1) (sackB_one (shellB_of h2)) (hr.ext hx) h (RowOf.nil _ _) (by simp [oneOf]))
 have hO := fun w1 (hx : Ext w w1) => one_any b rv gv s w1 (by obtain ⟨_, _, rfl, _⟩ := hr.open; exact ⟨_, _, _, rfl⟩) (hg.ext hx)
 have HO := Lib.hid hO
 obtain ⟨ra, rc, rfl, _⟩ := hr.open
 obtain ⟨ga, gc, rfl, _⟩ := hg.open
 have hx0 : Ext w ((w.alloc (.cells #[.int .i64 b.years, .slice ra b.rivers.length rc] 24)).alloc (.cells #[.slice ga s.rings.length gc, .int .i64 s.off] 65)) := ((Ext.refl w).alloc _).alloc _
 have HX0 := Lib.hid hx0
 have HS := Lib.hid (fun W (h : Ext ((w.alloc (.cells #[.int .i64 b.years, .slice ra b.rivers.length rc] 24)).alloc (.cells #[.slice ga s.rings.length gc, .int .i64 s.off] 65)) W) => (⟨h.cell (by go_simp), h.cell (by go_simp), h.cell (by go_simp), h.cell (by go_simp)⟩ :
  W.cell? ⟨w.heap.size, 0, none⟩ = some (.int .i64 b.years) ∧ W.cell? ⟨w.heap.size, 1, none⟩ = some (.slice ra b.rivers.length rc) ∧ W.cell? ⟨w.heap.size + 1, 0, none⟩ = some (.slice ga s.rings.length gc) ∧ W.cell? ⟨w.heap.size + 1, 1, none⟩ = some (.int .i64 s.off)))
 have hy := Ext.refl ((w.alloc (.cells #[.int .i64 b.years, .slice ra b.rivers.length rc] 24)).alloc (.cells #[.slice ga s.rings.length gc, .int .i64 s.off] 65))
 have hno : couldArg b s = false → ∀ w', Ext w w' → CouldRes b s w (.returned (.tuple #[.slice none 0 0, .int .i64 2])) w' := fun h w' hx => ⟨_, by rw [h]; rfl, hx, by rw [h]; exact RowOf.nil _ _⟩
 have hyes : couldArg b s = true → ∀ v w', Ext w w' → PairsAt w' v (couldOf b (oneOf s) 0) → CouldRes b s w (.returned (.tuple #[v, .int .i64 0])) w' := fun h v w' hx hp => ⟨_, by rw [h]; rfl, hx, by rw [h]; exact hp⟩
 have HNO := Lib.hid hno
 have HYES := Lib.hid hyes
 clear hr hg hx0 hO hno hyes
 unfold sackV at HO HC
 cases h1 : isBookB b with
 | false =>
  rw [h1] at HB
  have HF := Lib.hid (HNO.out (by unfold couldArg; rw [h1]; rfl))
  clear h1
  go_enter Tryz.func22, Tryz.ntmps22
  go_wp2_with (go_at_call 46; refine (HB.out _ (HX0.out.trans hy)).mono ?_; rintro e w1 ⟨rfl, hx1⟩; replace hy := hy.trans hx1; clear hx1; obtain ⟨z0, z1, z2, z3⟩ := HS.out _ hy)
  go_ret2
  exact HF.out _ (HX0.out.trans hy)
 | true =>
  rw [h1] at HB
  cases h2 : isShellB s with
  | false =>
   rw [h2] at HH
   have HF := Lib.hid (HNO.out (by unfold couldArg; rw [h1, h2]; rfl))
   clear h1 h2
   go_enter Tryz.func22, Tryz.ntmps22
   go_wp2_with (first
    | (go_at_call 46; refine (HB.out _ (HX0.out.trans hy)).mono ?_; rintro e w1 ⟨rfl, hx1⟩; replace hy := hy.trans hx1; clear hx1; obtain ⟨z0, z1, z2, z3⟩ := HS.out _ hy)
    | (go_at_call 55; refine (HH.out _ (HX0.out.trans hy)).mono ?_; rintro e w2 ⟨rfl, hx1⟩; replace hy := hy.trans hx1; clear hx1 z0 z1 z2 z3; obtain ⟨z0, z1, z2, z3⟩ := HS.out _ hy))
   go_ret2
   exact HF.out _ (HX0.out.trans hy)
  | true =>
   rw [h2] at HH
   have HF := Lib.hid (HYES.out (by unfold couldArg; rw [h1, h2]; rfl))
   have HCC := Lib.hid (fun m w1 hx h => HC.out m w1 hx h1 h2 h)
   clear h1 h2
   go_enter Tryz.func22, Tryz.ntmps22
   go_wp2_with (first
    | (go_at_call 46; refine (HB.out _ (HX0.out.trans hy)).mono ?_; rintro e w1 ⟨rfl, hx1⟩; replace hy := hy.trans hx1; clear hx1; obtain ⟨z0, z1, z2, z3⟩ := HS.out _ hy)
    | (go_at_call 55; refine (HH.out _ (HX0.out.trans hy)).mono ?_; rintro e w2 ⟨rfl, hx1⟩; replace hy := hy.trans hx1; clear hx1 z0 z1 z2 z3; obtain ⟨z0, z1, z2, z3⟩ := HS.out _ hy)
    | (go_at_call 56; refine (HO.out _ (HX0.out.trans hy)).mono ?_; rintro e w3 ⟨m, rfl, hx3, hsh⟩; replace hy := hy.trans hx3; clear hx3; have HSH := Lib.hid hsh; clear hsh)
    | (go_at_call 49; refine (HCC.out m _ (HX0.out.trans hy) HSH.out).mono ?_; rintro e w4 ⟨v, rfl, hx4, hp⟩; replace hy := hy.trans hx4; clear hx4; have HP := Lib.hid hp; clear hp))
   go_ret2
   exact HF.out _ _ (HX0.out.trans hy) HP.out
set_option maxRecDepth 100000 in
set_option maxHeartbeats 4000000 in
theorem Word_any (bv sv : Value) (b : Book) (s : Shell) (w : World) (hb : BookAt w bv b) (hs : ShellAt w sv s) : Calls Tryz.prog 25 #[bv, sv] w (WordRes b s w) := by
 have HB := Lib.hid (fun w1 (hx : Ext w w1) => isBook_any bv b w1 (hb.ext hx))
 have HH := Lib.hid (fun w1 (hx : Ext w w1) => isShell_any sv s w1 (hs.ext hx))
 obtain ⟨rv, rfl, hr⟩ := hb
 obtain ⟨gv, rfl, hg⟩ := hs
 have HC := Lib.hid (fun (m : Nat) (w1 : World) (hx : Ext w w1) (h1 : isBookB b = true) (h2 : isShellB s = true) (h : ShellsAt w1 (.slice (some ⟨m, 0, none⟩) 1 1) [s]) => could_any b (oneOf s) rv (.slice (some ⟨m, 0, none⟩) 1 1) (.slice none 0 0) 0 w1 (bookB_of h1) (sackB_one (shellB_of h2)) (hr.ext hx) h (RowOf.nil _ _) (by simp [oneOf]))
 have HV := Lib.hid (fun (m : Nat) (lv : Value) (w1 : World) (hx : Ext w w1) (h1 : isBookB b = true) (h2 : isShellB s = true) (h : PairsAt w1 lv (couldOf b (oneOf s) 0)) => verdict_any b rv (.slice (some ⟨m, 0, none⟩) 1 1) (.slice none 0 0) lv (couldOf b (oneOf s) 0) w1 (bookB_of h1) (hr.ext hx) ⟨_, _, _, rfl⟩ ⟨_, _, _, rfl⟩ h (couldOf_mem (bookB_of h1) (by simpa [shellAt, oneOf] using (shellB_of h2).n1)))
 have hO := fun w1 (hx : Ext w w1) => one_any b rv gv s w1 (by obtain ⟨_, _, rfl, _⟩ := hr.open; exact ⟨_, _, _, rfl⟩) (hg.ext hx)
 have HO := Lib.hid hO
 obtain ⟨ra, rc, rfl, _⟩ := hr.open
 obtain ⟨ga, gc, rfl, _⟩ := hg.open
 have hmix : Tryz.prog.follows .mixedOrders = true := by kernel_rfl
 have hx0 : Ext w ((w.alloc (.cells #[.int .i64 b.years, .slice ra b.rivers.length rc] 24)).alloc (.cells #[.slice ga s.rings.length gc, .int .i64 s.off] 65)) := ((Ext.refl w).alloc _).alloc _
 have HX0 := Lib.hid hx0
 have HS := Lib.hid (fun W (h : Ext ((w.alloc (.cells #[.int .i64 b.years, .slice ra b.rivers.length rc] 24)).alloc (.cells #[.slice ga s.rings.length gc, .int .i64 s.off] 65)) W) => (⟨h.cell (by go_simp), h.cell (by go_simp), h.cell (by go_simp), h.cell (by go_simp)⟩ :
  W.cell? ⟨w.heap.size, 0, none⟩ = some (.int .i64 b.years) ∧ W.cell? ⟨w.heap.size, 1, none⟩ = some (.slice ra b.rivers.length rc) ∧ W.cell? ⟨w.heap.size + 1, 0, none⟩ = some (.slice ga s.rings.length gc) ∧ W.cell? ⟨w.heap.size + 1, 1, none⟩ = some (.int .i64 s.off)))
 have hy := Ext.refl ((w.alloc (.cells #[.int .i64 b.years, .slice ra b.rivers.length rc] 24)).alloc (.cells #[.slice ga s.rings.length gc, .int .i64 s.off] 65))
 have hno : couldArg b s = false → ∀ w', Ext w w' → WordRes b s w (.returned (.tuple #[.int .i64 0, .int .i64 2])) w' := fun h w' hx => ⟨by rw [h]; rfl, hx⟩
 have hyes : couldArg b s = true → ∀ w', Ext w w' → WordRes b s w (.returned (.tuple #[.int .i64 (if (couldOf b (oneOf s) 0).countP (closedB b) = 0 then 1 else if (couldOf b (oneOf s) 0).countP (closedB b) = (couldOf b (oneOf s) 0).length then 3 else 2), .int .i64 0])) w' := fun h w' hx => ⟨by rw [h]; rfl, hx⟩
 have HNO := Lib.hid hno
 have HYES := Lib.hid hyes
 clear hr hg hx0 hO hno hyes
 unfold sackV at HO HC HV
 cases h1 : isBookB b with
 | false =>
  rw [h1] at HB
  have HF := Lib.hid (HNO.out (by unfold couldArg; rw [h1]; rfl))
  clear h1
  go_enter Tryz.func25, Tryz.ntmps25
  go_wp2_with (go_at_call 46; refine (HB.out _ (HX0.out.trans hy)).mono ?_; rintro e w1 ⟨rfl, hx1⟩; replace hy := hy.trans hx1; clear hx1; obtain ⟨z0, z1, z2, z3⟩ := HS.out _ hy)
  go_ret2
  exact HF.out _ (HX0.out.trans hy)
 | true =>
  rw [h1] at HB
  cases h2 : isShellB s with
  | false =>
   rw [h2] at HH
   have HF := Lib.hid (HNO.out (by unfold couldArg; rw [h1, h2]; rfl))
   clear h1 h2
   go_enter Tryz.func25, Tryz.ntmps25
   go_wp2_with (first
    | (go_at_call 46; refine (HB.out _ (HX0.out.trans hy)).mono ?_; rintro e w1 ⟨rfl, hx1⟩; replace hy := hy.trans hx1; clear hx1; obtain ⟨z0, z1, z2, z3⟩ := HS.out _ hy)
    | (go_at_call 55; refine (HH.out _ (HX0.out.trans hy)).mono ?_; rintro e w2 ⟨rfl, hx1⟩; replace hy := hy.trans hx1; clear hx1 z0 z1 z2 z3; obtain ⟨z0, z1, z2, z3⟩ := HS.out _ hy))
   go_ret2
   exact HF.out _ (HX0.out.trans hy)
  | true =>
   rw [h2] at HH
   have HF := Lib.hid (HYES.out (by unfold couldArg; rw [h1, h2]; rfl))
   have HWD := Lib.hid (fun w1 => word_any ((couldOf b (oneOf s) 0).countP (closedB b)) (couldOf b (oneOf s) 0).length w1)
   obtain ⟨wn, hwn⟩ : ∃ wn : Int, (if (couldOf b (oneOf s) 0).countP (closedB b) = 0 then 1 else if (couldOf b (oneOf s) 0).countP (closedB b) = (couldOf b (oneOf s) 0).length then 3 else 2) = wn := ⟨_, rfl⟩
   rw [hwn] at HF HWD
   clear hwn
   have HCC := Lib.hid (fun m w1 hx h => HC.out m w1 hx h1 h2 h)
   have HVV := Lib.hid (fun m lv w1 hx h => HV.out m lv w1 hx h1 h2 h)
   clear h1 h2 HC HV
   go_enter Tryz.func25, Tryz.ntmps25
   go_upto_region 4 with (first
    | (go_at_call 46; refine (HB.out _ (HX0.out.trans hy)).mono ?_; rintro e w1 ⟨rfl, hx1⟩; replace hy := hy.trans hx1; clear hx1; obtain ⟨z0, z1, z2, z3⟩ := HS.out _ hy)
    | (go_at_call 55; refine (HH.out _ (HX0.out.trans hy)).mono ?_; rintro e w2 ⟨rfl, hx1⟩; replace hy := hy.trans hx1; clear hx1 z0 z1 z2 z3; obtain ⟨z0, z1, z2, z3⟩ := HS.out _ hy)
    | (go_at_call 56; refine (HO.out _ (HX0.out.trans hy)).mono ?_; rintro e w3 ⟨m, rfl, hx3, hsh⟩; replace hy := hy.trans hx3; clear hx3; have HSH := Lib.hid hsh; clear hsh))
   have HS4 := Lib.hid (fun W (h : Ext (w3.alloc (.cells #[.int .i64 b.years, .slice ra b.rivers.length rc, .slice (some ⟨m, 0, none⟩) 1 1, .slice none 0 0] 89)) W) => (⟨h.cell (by go_simp), h.cell (by go_simp), h.cell (by go_simp), h.cell (by go_simp)⟩ : (fun w' => w'.cell? ⟨w3.heap.size, 0, none⟩ = some (.int .i64 b.years) ∧ w'.cell? ⟨w3.heap.size, 1, none⟩ = some (.slice ra b.rivers.length rc) ∧ w'.cell? ⟨w3.heap.size, 2, none⟩ = some (.slice (some ⟨m, 0, none⟩) 1 1) ∧ w'.cell? ⟨w3.heap.size, 3, none⟩ = some (.slice none 0 0)) W))
   have hx4 : Ext w3 (w3.alloc (.cells #[.int .i64 b.years, .slice ra b.rivers.length rc, .slice (some ⟨m, 0, none⟩) 1 1, .slice none 0 0] 89)) := (Ext.refl w3).alloc _
   have HX4 := Lib.hid hx4
   have HXW := Lib.hid ((HX0.out.trans hy).trans hx4)
   clear hy hx4
   refine wp_region_held_drew (S := (fun w' => w'.cell? ⟨w3.heap.size, 0, none⟩ = some (.int .i64 b.years) ∧ w'.cell? ⟨w3.heap.size, 1, none⟩ = some (.slice ra b.rivers.length rc) ∧ w'.cell? ⟨w3.heap.size, 2, none⟩ = some (.slice (some ⟨m, 0, none⟩) 1 1) ∧ w'.cell? ⟨w3.heap.size, 3, none⟩ = some (.slice none 0 0))) (by kernel_rfl) ?_ (fun hHeld => ?_)
   ·exact HS4.out _ (by repeat (first | exact hx6 | exact hx5 | exact Ext.refl _ | apply Ext.drew))
   refine hTk (i := 0) (d := some 18) (v := ?_) (fun o ho => ?_) hHeld ?_
   rotate_left
   ·simp only [zA, zB, zD] at ho
    subst ho
    refine ⟨by rfl, fun w hSw => ?_⟩
    (try dsimp only at hSw)
    go_simp
    try with_reducible rfl
   try simp only [Act.put, yA, yB, yC]
   refine hTk (i := 1) (d := some 19) (v := ?_) (fun o ho => ?_) hHeld ?_
   rotate_left
   ·simp only [zA, zB, zC, zD] at ho
    subst ho
    refine ⟨by rfl, fun w hSw => ?_⟩
    (try dsimp only at hSw)
    go_simp
    try with_reducible rfl
   try simp only [Act.put, yA, yB, yC]
   refine wpAnyH_ready (rs := [2]) (by kernel_rfl) (by simp) ?_
   refine held_step (i := 2) (by kernel_rfl) (fun o ho K' hK => ?_) ?_
   ·simp only [zA, zB, zC, zD] at ho
    subst ho
    go_simp
    go_at_call 49
    refine (HCC.out m _ (HXW.out.trans (by repeat (first | exact hx6 | exact hx5 | exact Ext.refl _ | apply Ext.drew))) (ShellsAt.ext HSH.out (HX4.out.trans (by repeat (first | exact hx6 | exact hx5 | exact Ext.refl _ | apply Ext.drew))))).mono ?_
    rintro e w5 ⟨v, rfl, hx5', hp⟩
    have hx5 := (by repeat (first | exact Ext.refl _ | apply Ext.drew) : Ext (w3.alloc (.cells #[.int .i64 b.years, .slice ra b.rivers.length rc, .slice (some ⟨m, 0, none⟩) 1 1, .slice none 0 0] 89)) (World.drew (w3.alloc (.cells #[.int .i64 b.years, .slice ra b.rivers.length rc, .slice (some ⟨m, 0, none⟩) 1 1, .slice none 0 0] 89)))).trans hx5'
    have HP := Lib.hid hp
    clear hp hx5'
    obtain ⟨pa, pc, rfl, _⟩ := HP.out.open
    try go_simp
    refine hK.out _ _ ?_ (fun hHeld => ?_)
    ·exact HS4.out _ (by repeat (first | exact hx6 | exact hx5 | exact Ext.refl _ | apply Ext.drew))
    clear hK K'
    try simp only [yA, yB, yC]
    refine wpAnyH_ready (rs := [3]) (by kernel_rfl) (by simp) ?_
    refine held_step (i := 3) (by kernel_rfl) (fun o ho K' hK => ?_) ?_
    ·simp only [zA, zB, zC, zD] at ho
     subst ho
     go_simp
     go_at_call 59
     refine (HVV.out m _ _ (HXW.out.trans hx5) HP.out).mono ?_
     rintro e w6 ⟨rfl, hx6'⟩
     have hx6 := hx5.trans hx6'
     clear hx6'
     try go_simp
     refine hK.out _ _ ?_ (fun hHeld => ?_)
     ·exact HS4.out _ (by repeat (first | exact hx6 | exact hx5 | exact Ext.refl _ | apply Ext.drew))
     clear hK K'
     try simp only [yA, yB, yC]
     refine wpAnyH_ready (rs := [4]) (by kernel_rfl) (by simp) ?_
     refine held_step (i := 4) (by kernel_rfl) (fun o ho K' hK => ?_) ?_
     ·simp only [zA, zB, zC, zD] at ho
      subst ho
      go_simp
      go_at_call 58
      refine (HWD.out _).mono ?_
      rintro e w7 ⟨rfl, rfl⟩
      try go_simp
      refine hK.out _ _ ?_ (fun hHeld => ?_)
      ·exact HS4.out _ (by repeat (first | exact hx6 | exact hx5 | exact Ext.refl _ | apply Ext.drew))
      clear hK K'
      try simp only [yA, yB, yC]
      refine wpAnyH_ready (rs := [5]) (by kernel_rfl) (by simp) ?_
      refine held_step (i := 5) (by kernel_rfl) (fun o ho K' hK => ?_) ?_
      ·simp only [zA, zB, zC, zD] at ho
       subst ho
       go_simp
       refine hK.out _ _ ?_ (fun hHeld => ?_)
       ·exact HS4.out _ (by repeat (first | exact hx6 | exact hx5 | exact Ext.refl _ | apply Ext.drew))
       clear hK K'
       try simp only [yA, yB, yC]
       refine wpAnyH_ready (rs := [6]) (by kernel_rfl) (by simp) ?_
       refine held_step (i := 6) (by kernel_rfl) (fun o ho K' hK => ?_) ?_
       ·simp only [zA, zB, zC, zD] at ho
        subst ho
        go_simp
        refine hK.out _ _ ?_ (fun hHeld => ?_)
        ·exact HS4.out _ (by repeat (first | exact hx6 | exact hx5 | exact Ext.refl _ | apply Ext.drew))
        clear hK K'
        try simp only [yA, yB, yC]
        refine wpAnyH_done (by kernel_rfl) ?_ _
        try simp only [yA, yB, yC]
        go_wp2
        go_ret2
        exact HF.out _ (HXW.out.trans hx6)
       exact AllReadyH.nil
      exact AllReadyH.nil
     exact AllReadyH.nil
    exact AllReadyH.nil
   exact AllReadyH.nil
end Go.Proofs.YtiodjapdiflphaaGreatDoor
