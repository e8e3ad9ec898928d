/- A shell by itself: of which origins it can be, ring by ring; a lesser error never has an origin more. -/
import Derived.Test.YtnhpibnneidmgaaGreatDoorWord
namespace Go.Proofs.YtnhpibnneidmgaaGreatDoor
def ringOk (g : Int × Int) (n off : Int) : Bool := decide (max g.1 (n - off) ≤ min g.2 (n + off))
theorem ringOk_mono {g : Int × Int} {n o1 o2 : Int} (h : o1 ≤ o2) (hk : ringOk g n o1 = true) : ringOk g n o2 = true := by
 unfold ringOk at *
 rw [decide_eq_true_eq] at *
 omega
def ringsOk (off : Int) (ns : List Int) (p : Nat) (row : List (Int × Int)) : Bool := (List.range ns.length).all fun i => ringOk (row.getD (p + i) (0, 0)) (ns.getD i 0) off
theorem getD_set_ne {α : Type} {l : List α} {i j : Nat} {x d : α} (h : i ≠ j) : (l.set i x).getD j d = l.getD j d := by
 rw [List.getD_eq_getElem?_getD, List.getD_eq_getElem?_getD, List.getElem?_set_ne h]
theorem ringsOk_cons (off : Int) (n : Int) (ns : List Int) (p : Nat) (row : List (Int × Int)) : ringsOk off (n :: ns) p row = (ringOk (row.getD p (0, 0)) n off && ringsOk off ns (p + 1) row) := by
 rw [Bool.eq_iff_iff, Bool.and_eq_true]
 unfold ringsOk
 simp only [List.all_eq_true, List.mem_range, List.length_cons]
 constructor
 ·intro h
  refine ⟨by simpa using h 0 (by omega), fun i hi => ?_⟩
  have := h (i + 1) (by omega)
  simpa [Nat.add_assoc, Nat.add_comm 1 i] using this
 ·rintro ⟨h1, h2⟩ i hi
  cases i with
  | zero => simpa using h1
  | succ i =>
   have := h2 i (by omega)
   simpa [Nat.add_assoc, Nat.add_comm 1 i] using this
theorem ringsOk_set {off : Int} {ns : List Int} {p q : Nat} {row : List (Int × Int)} {x : Int × Int} (h : q < p) : ringsOk off ns p (row.set q x) = ringsOk off ns p row := by
 unfold ringsOk
 congr 1
 funext i
 rw [getD_set_ne (by omega)]
theorem narrowL_some (off : Int) : ∀ (ns : List Int) (p : Nat) (row : List (Int × Int)), (narrowL off ns p row).isSome = ringsOk off ns p row
 | [], p, row => rfl
 | n :: ns, p, row => by
  rw [ringsOk_cons]
  unfold narrowL
  by_cases h : (meet (row.getD p (0, 0)) n off).2 < (meet (row.getD p (0, 0)) n off).1
  ·rw [if_pos h]
   have : ringOk (row.getD p (0, 0)) n off = false := by
    unfold ringOk meet at *
    simp only at h
    rw [decide_eq_false_iff_not]; omega
   rw [this]; rfl
  ·rw [if_neg h, narrowL_some off ns (p + 1) _, ringsOk_set (by omega)]
   have : ringOk (row.getD p (0, 0)) n off = true := by
    unfold ringOk meet at *
    simp only at h
    rw [decide_eq_true_eq]; omega
   rw [this]; rfl
def couldOne (b : Book) (s : Shell) (o : Org) : Bool := ringsOk ((riverOf b o.1).vary + s.off) s.rings (firstY o s) (riverOf b o.1).grow
theorem begin_at {b : Book} {r : Nat} (h : r < b.rivers.length) : (beginB b).wea.getD r [] = (riverOf b r).grow := by
 unfold beginB riverOf
 simp only [Int.toNat_natCast]
 rw [List.getD_eq_getElem?_getD, List.getElem?_map, List.getElem?_eq_getElem h, List.getD_eq_getElem?_getD, List.getElem?_eq_getElem h]
 rfl
theorem with_one {b : Book} (hB : BookB b) {s : Shell} (n1 : 1 ≤ s.rings.length) {o : Org} (h : o ∈ originsOf b s.rings.length) : (withB b (beginB b) s o).isSome = couldOne b s o := by
 obtain ⟨r, y, rfl, h1, h2, h3⟩ := originsOf_mem hB n1 h
 unfold withB couldOne
 rw [Option.isSome_map, narrowL_some]
 simp only [Int.toNat_natCast]
 rw [begin_at h1]
theorem truths_one (b : Book) (s : Shell) : truthsOf b (oneOf s) = (originsOf b s.rings.length).flatMap fun o => match withB b (beginB b) s o with | some y => [y] | none => [] := by
 unfold truthsOf
 show truthsFrom b (oneOf s) 1 (beginB b) = _
 unfold truthsFrom
 refine congrArg (fun f => List.flatMap f _) (funext fun o => ?_)
 show (match nextsOf b (oneOf s) (beginB b) o with | some y => truthsFrom b (oneOf s) 0 y | none => []) = _
 have : nextsOf b (oneOf s) (beginB b) o = withB b (beginB b) s o := by
  unfold nextsOf
  rw [if_pos (by simp [testedB, oneOf])]
  rfl
 rw [this]
 cases withB b (beginB b) s o <;> rfl
theorem with_org {b : Book} {s : Shell} {o : Org} {y : State} (h : withB b (beginB b) s o = some y) : orgAt y 0 = o := by
 unfold withB at h
 rw [Option.map_eq_some_iff] at h
 obtain ⟨row, _, rfl⟩ := h
 rfl
theorem couldOf_one {b : Book} (hB : BookB b) {s : Shell} (hS : ShellB s) : couldOf b (oneOf s) 0 = (originsOf b s.rings.length).filter (couldOne b s) := by
 unfold couldOf
 show (originsOf b s.rings.length).filter _ = _
 refine List.filter_congr fun o ho => ?_
 rw [← with_one hB hS.n1 ho, truths_one, Bool.eq_iff_iff, List.any_eq_true]
 constructor
 ·rintro ⟨y, hy, he⟩
  rw [List.mem_flatMap] at hy
  obtain ⟨o', ho', hy'⟩ := hy
  cases hw : withB b (beginB b) s o' with
  | none => rw [hw] at hy'; simp at hy'
  | some z =>
   rw [hw] at hy'
   have : y = z := by simpa using hy'
   subst this
   have h1 := with_org hw
   have h2 : orgAt y 0 = o := by simpa using he
   have : o' = o := h1.symm.trans h2
   rw [← this, hw]; rfl
 ·intro h
  obtain ⟨y, hy⟩ := Option.isSome_iff_exists.1 h
  exact ⟨y, List.mem_flatMap.2 ⟨o, ho, by rw [hy]; simp⟩, by rw [with_org hy]; simp⟩
theorem could_len {b : Book} (hB : BookB b) {s : Shell} (hS : ShellB s) : (couldOf b (oneOf s) 0).length ≤ 21 := by
 rw [couldOf_one hB hS]
 exact Nat.le_trans (List.length_filter_le _ _) (originsOf_len hB _)
/-! ### A lesser error -/
def lessS (s : Shell) (d : Int) : Shell := ⟨s.rings, s.off - d⟩
theorem lessS_B {s : Shell} (h : ShellB s) {d : Int} (h1 : 0 ≤ d) (h2 : d ≤ s.off) : ShellB (lessS s d) :=
 ⟨h.n1, h.n2, by have := h.off; unfold lessS; simp only []; omega, h.ring⟩
theorem couldOne_less {b : Book} {s : Shell} {d : Int} (h1 : 0 ≤ d) {o : Org} (h : couldOne b (lessS s d) o = true) : couldOne b s o = true := by
 unfold couldOne ringsOk at *
 rw [List.all_eq_true] at *
 intro i hi
 have := h i hi
 exact ringOk_mono (by unfold lessS; simp only []; omega) this
theorem could_less {b : Book} (hB : BookB b) {s : Shell} (hS : ShellB s) {d : Int} (h1 : 0 ≤ d) (h2 : d ≤ s.off) : ∀ o, o ∈ couldOf b (oneOf (lessS s d)) 0 → o ∈ couldOf b (oneOf s) 0 := by
 intro o ho
 rw [couldOf_one hB (lessS_B hS h1 h2)] at ho
 rw [couldOf_one hB hS]
 obtain ⟨h3, h4⟩ := List.mem_filter.1 ho
 exact List.mem_filter.2 ⟨h3, couldOne_less h1 h4⟩
/-- What is surely so of more origins is so of some of them. -/
theorem word_less {b : Book} {l m : List Org} (hm : ∀ o, o ∈ m → o ∈ l) (hne : m ≠ []) : wordOf b l = 2 ∨ wordOf b m = wordOf b l := by
 unfold wordOf
 by_cases h0 : l.countP (closedB b) = 0
 ·right
  rw [if_pos h0, if_pos]
  rw [List.countP_eq_zero] at *
  exact fun o ho => h0 o (hm o ho)
 ·rw [if_neg h0]
  by_cases h1 : l.countP (closedB b) = l.length
  ·right
   have h2 : m.countP (closedB b) = m.length := by
    rw [List.countP_eq_length] at *
    exact fun o ho => h1 o (hm o ho)
   have h3 : 0 < m.length := List.length_pos_iff.2 hne
   rw [if_pos h1, if_neg (by omega), if_pos h2]
  ·left; rw [if_neg h1]
theorem word_nil (b : Book) : wordOf b [] = 1 := rfl
end Go.Proofs.YtnhpibnneidmgaaGreatDoor
namespace Go.Proofs.YtnhpibnneidmgaaGreatDoor
open Go.RowKit
set_option maxRecDepth 100000 in
set_option maxHeartbeats 2000000 in
theorem lhas_any (v : Value) (xs : List Org) (o : Org) (w : World) (hv : PairsAt w v xs) :
  Calls Tryz.prog 24 #[v, .agg #[.int .i64 o.1, .int .i64 o.2]] w fun e w' => e = .returned (.bool ((xs.take 30).any (fun x => x == o))) ∧ Ext w w' := by
 obtain ⟨a, c, rfl, h1, h2, h3⟩ := hv.open
 have hmix : Tryz.prog.follows .mixedOrders = true := by kernel_rfl
 have hsg := org_guard
 have hse := org_eql
 have H3 := Lib.hid h3
 have HX0 := Lib.hid ((Ext.refl w).alloc (.cells #[.int .i64 o.1, .int .i64 o.2] 50))
 have HS := Lib.hid (fun W (h : Ext (w.alloc (.cells #[.int .i64 o.1, .int .i64 o.2] 50)) W) => (⟨h.cell (by go_simp), h.cell (by go_simp)⟩ : W.cell? ⟨w.heap.size, 0, none⟩ = some (.int .i64 o.1) ∧ W.cell? ⟨w.heap.size, 1, none⟩ = some (.int .i64 o.2)))
 clear h3 hv
 go_enter Tryz.func24, Tryz.ntmps24
 go_wp2
 go_loopw [5] (fun i wr => ∃ k : Nat, k ≤ xs.length ∧ k ≤ 30 ∧ i = .int .i64 k ∧ Hid ((xs.take k).any (fun x => x == o) = false) ∧ Ext (w.alloc (.cells #[.int .i64 o.1, .int .i64 o.2] 50)) wr) (fun i _ => xs.length - (intOf i).toNat)
 case atStart => exact ⟨0, Nat.zero_le _, by omega, rfl, by simp [Hid], Ext.refl _⟩
 case round =>
  obtain ⟨k, hk, hk3, rfl, hno, hx⟩ := hrel
  obtain ⟨z0, z1⟩ := HS.out _ hx
  by_cases hlt : k < xs.length
  ·have x2 : decide ((k : Int) < (xs.length : Int)) = true := by simpa using hlt
   by_cases h30 : k < 30
   ·have x3 : decide ((k : Int) < 30) = true := by simp; omega
    obtain ⟨b, f, x, rfl, hxk, c0, c1⟩ := H3.out k hlt
    have d0 := (HX0.out.trans hx).cell c0
    have d1 := (HX0.out.trans hx).cell c1
    have i1 : (0 : Int) ≤ (k : Int) := by omega
    have i2 : (k : Int) < (xs.length : Int) := by omega
    obtain ⟨x1, y1⟩ := x
    obtain ⟨o1, o2⟩ := o
    simp only at d0 d1 z0 z1
    clear c0 c1
    by_cases he : (x1, y1) = (o1, o2)
    ·have HN : Hid ((xs.take 30).any (fun x => x == (o1, o2)) = true) := by
      unfold Hid; rw [List.any_eq_true]; exact ⟨(x1, y1), List.mem_iff_getElem?.2 ⟨k, by rw [List.getElem?_take, if_pos h30]; exact hxk.out⟩, by simp [he]⟩
     have e1 : x1 = o1 := congrArg Prod.fst he
     have e2 : y1 = o2 := congrArg Prod.snd he
     subst e1 e2
     clear he
     go_wp2
     go_quiet (fail)
     go_wp2
     go_ret
     exact ⟨by rw [HN.out] <;> rfl, (HX0.out.trans hx).drewN _⟩
    ·have HN : Hid ((xs.take (k + 1)).any (fun x => x == (o1, o2)) = false) := by
      unfold Hid; rw [any_take_succ _ hxk.out, hno.out]; simpa using he
     have t4 : (x1 == o1 && y1 == o2) = false := by
      rw [Bool.and_eq_false_iff]
      by_cases e1 : x1 = o1
      ·right; rw [beq_eq_false_iff_ne]; exact fun e2 => he (by rw [e1, e2])
      ·left; rw [beq_eq_false_iff_ne]; exact e1
     rcases Bool.and_eq_false_iff.1 t4 with t5 | t5
     all_goals
      clear he t4
      go_wp2
      go_quiet (fail)
      go_wp2
      go_roundw
      case rel => exact ⟨k + 1, by omega, by omega, by go_num, HN, hx.drewN _⟩
      case measure => simp [intOf]; omega
   ·have x3 : decide ((k : Int) < 30) = false := by simp; omega
    have HN : Hid ((xs.take 30).any (fun x => x == o) = false) := by have h := hno.out; rwa [show k = 30 by omega] at h
    go_wp2
    go_ret
    exact ⟨by rw [HN.out] <;> rfl, HX0.out.trans hx⟩
  ·have x2 : decide ((k : Int) < (xs.length : Int)) = false := by simp; omega
   have HN : Hid ((xs.take 30).any (fun x => x == o) = false) := by
    have h := hno.out
    rw [List.take_of_length_le (by omega)] at h
    rw [Hid, List.take_of_length_le (by omega)]; exact h
   go_wp2
   go_ret
   exact ⟨by rw [HN.out] <;> rfl, HX0.out.trans hx⟩
theorem has_yes {v : Value} {xs : List Org} {o : Org} {w : World} (hv : PairsAt w v xs) (hl : xs.length ≤ 30) (h : o ∈ xs) : Calls Tryz.prog 24 #[v, .agg #[.int .i64 o.1, .int .i64 o.2]] w fun e w' => e = .returned (.bool true) ∧ Ext w w' :=
 (lhas_any v xs o w hv).mono fun e w' q => by
  rw [List.take_of_length_le hl, show xs.any (fun x => x == o) = true by rw [List.any_eq_true]; exact ⟨o, h, by simp⟩] at q
  exact q
theorem Could_ok {bv sv : Value} {b : Book} {s : Shell} {w : World} (hb : BookAt w bv b) (hs : ShellAt w sv s) (h : couldArg b s = true) : Calls Tryz.prog 21 #[bv, sv] w fun e w' => ∃ (a : Option Addr) (c : Nat), e = .returned (.tuple #[.slice a (couldOf b (oneOf s) 0).length c, .int .i64 0]) ∧ Ext w w' ∧ PairsAt w' (.slice a (couldOf b (oneOf s) 0).length c) (couldOf b (oneOf s) 0) :=
 (Could_any bv sv b s w hb hs).mono fun e w' q => by
  obtain ⟨v, h1, h2, h3⟩ := q
  rw [h, if_pos rfl] at h1 h3
  obtain ⟨a, c, rfl, _⟩ := h3.open
  exact ⟨a, c, h1, h2, h3⟩
theorem Word_ok {bv sv : Value} {b : Book} {s : Shell} {w : World} (hb : BookAt w bv b) (hs : ShellAt w sv s) (h : couldArg b s = true) : Calls Tryz.prog 29 #[bv, sv] w fun e w' => e = .returned (.tuple #[.int .i64 (wordOf b (couldOf b (oneOf s) 0)), .int .i64 0]) ∧ Ext w w' :=
 (Word_any bv sv b s w hb hs).mono fun e w' q => by
  obtain ⟨h1, h2⟩ := q
  rw [h, if_pos rfl, if_pos rfl] at h1
  exact ⟨h1, h2⟩
end Go.Proofs.YtnhpibnneidmgaaGreatDoor
