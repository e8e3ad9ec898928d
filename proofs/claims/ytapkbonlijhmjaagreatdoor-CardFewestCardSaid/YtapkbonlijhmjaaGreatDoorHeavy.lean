/- Where a tour is too heavy: the panic passes through the search, the iterator, best, shortest, and is recovered. -/
import Derived.Test.YtapkbonlijhmjaaGreatDoorTour
import Derived.Test.YtapkbonlijhmjaaGreatDoorSearchr
namespace Go.Proofs.YtapkbonlijhmjaaGreatDoor
open Go.RowKit

theorem nodup_le : ∀ {hs now : List Int}, hs.Nodup → (∀ n, n ∈ hs → n ∈ now) → hs.length ≤ now.length
  | [], _, _, _ => by simp
  | x :: hs, now, hd, hsub => by
    have hx := hsub x (by simp)
    have hd' := List.nodup_cons.1 hd
    have h1 := nodup_le (hs := hs) (now := now.erase x) hd'.2 (fun n hn => (List.mem_erase_of_ne (fun e => hd'.1 (by rw [← e]; exact hn))).2 (hsub n (by simp [hn])))
    have h2 := List.length_erase_of_mem hx
    have h3 := List.length_pos_of_mem hx
    simp only [List.length_cons]
    omega
/-- Given up with, because a tour is too heavy. -/
def HeavyP (A : World) (e : Ending) (w' : World) : Prop := ∃ n : Int, e = .panicked [{ v := heavyV n, recovered := false }] ∧ Ext A w'
theorem length_heavy (v hv : Value) (c : Roads) (l : List Int) (w : World) (hb : RoadsB c) (hc : RoadsAt w v c) (hl : IntsAt w hv l) (hs : ∀ n, n ∈ l → 1 ≤ n ∧ n ≤ c.loads.length) (hlen : l.length ≤ 1000) (hld : c.bears < loadOf c l) :
    Calls Tryz.prog 77 #[v, hv] w (HeavyP w) := by
  refine (length_any v hv c l w hb hc hl hs hlen).mono fun e w' h => ?_
  have h1 := h.1
  rw [if_pos hld] at h1
  exact ⟨_, h1, h.2⟩
theorem OrdEnv.ext' {c : Roads} {hs : List Int} {w0 : World} {hb yb cb sb l : Nat} {hv lv fv : Value} {A B : World} (h : OrdEnv c hs w0 hb yb cb sb l hv lv fv A) (k : Ext A B) : OrdEnv c hs w0 hb yb cb sb l hv lv fv B :=
  h.touch (M := fun _ => False) (Touch.of_ext k) (fun _ h => h.elim) id id id id
set_option maxRecDepth 100000 in
set_option maxHeartbeats 2000000 in
theorem ord_leaf_p (c : Roads) (hs : List Int) (w0 : World) (hb yb cb sb l : Nat) (hv lv fv nowv : Value) (now : List Int) (A : World)
    (hB : RoadsB c) (hR : RoadsAt w0 (.agg #[lv, .int .i64 c.bears, fv]) c) (hH : IntsAt w0 hv hs) (hE : OrdEnv c hs w0 hb yb cb sb l hv lv fv A) (hN : IntsAt A nowv now) (hlen : now.length = hs.length) (hl0 : hs.length ≤ 1000)
    (hst : ∀ n, n ∈ now → 1 ≤ n ∧ n ≤ c.loads.length) (hld : c.bears < loadOf c now) :
    Calls Tryz.prog 154 #[nowv, .pointer (some ⟨hb, 0, none⟩), .pointer (some ⟨yb, 0, none⟩), .pointer (some ⟨cb, 0, none⟩), .pointer (some ⟨sb, 0, none⟩)] A (HeavyP A) := by
  have HC := Lib.hid (fun w1 (hx : Ext A w1) => length_heavy (.agg #[lv, .int .i64 c.bears, fv]) nowv c now w1 hB ((hR.ext hE.ext).ext hx) (hN.ext hx) hst (by omega) hld)
  obtain ⟨a, k1, rfl, h1, h2, _⟩ := hN.open
  obtain ⟨a', k1', rfl, h1', h2', _⟩ := (hH.ext hE.ext).open
  have e1 := hE.h
  have e2 := hE.y
  have e3 := hE.c0
  have e4 := hE.c1
  have e5 := hE.c2
  have t1 : (now.length == hs.length) = true := by simpa using hlen
  have t2 : ((now.length : Int) == (hs.length : Int)) = true := by rw [beq_iff_eq]; omega
  have hmix : Tryz.prog.follows .mixedOrders = true := by kernel_rfl
  clear hlen hld
  go_enter Tryz.func154, Tryz.ntmps154
  go_upto_region 2 with fail
  refine wp_region_held_drew (S := (fun w' => w'.cell? ⟨yb, 0, none⟩ = some (.func (.yield l) #[] #[]) ∧ w'.cell? ⟨cb, 0, none⟩ = some lv ∧ w'.cell? ⟨cb, 1, none⟩ = some (.int .i64 c.bears) ∧ w'.cell? ⟨cb, 2, none⟩ = some fv)) (by kernel_rfl) ?_ (fun hHeld => ?_)
  · go_keep
  refine held_take (i := 0) (d := some 14) (v := ?_) (by kernel_rfl) (by kernel_rfl) (by kernel_rfl) (by kernel_rfl) (fun _ _ _ h => h) (fun o ho => ?_) hHeld ?_
  rotate_left
  · simp only [List.getElem?_toArray, List.getElem?_cons_zero, Option.some.injEq] at ho
    subst ho
    refine ⟨by rfl, fun w hSw => ?_⟩
    (try dsimp only at hSw)
    go_simp
    try with_reducible rfl
  try simp only [Act.put, List.setIfInBounds_toArray, List.set_cons_zero, List.set_cons_succ]
  refine held_take (i := 1) (d := some 15) (v := ?_) (by kernel_rfl) (by kernel_rfl) (by kernel_rfl) (by kernel_rfl) (fun _ _ _ h => h) (fun o ho => ?_) hHeld ?_
  rotate_left
  · simp only [List.getElem?_toArray, List.getElem?_cons_zero, List.getElem?_cons_succ, Option.some.injEq] at ho
    subst ho
    refine ⟨by rfl, fun w hSw => ?_⟩
    (try dsimp only at hSw)
    go_simp
    try with_reducible rfl
  try simp only [Act.put, List.setIfInBounds_toArray, List.set_cons_zero, List.set_cons_succ]
  refine held_take (i := 2) (d := some 16) (v := ?_) (by kernel_rfl) (by kernel_rfl) (by kernel_rfl) (by kernel_rfl) (fun _ _ _ h => h) (fun o ho => ?_) hHeld ?_
  rotate_left
  · simp only [List.getElem?_toArray, List.getElem?_cons_zero, List.getElem?_cons_succ, Option.some.injEq] at ho
    subst ho
    refine ⟨by rfl, fun w hSw => ?_⟩
    (try dsimp only at hSw)
    go_simp
    try with_reducible rfl
  try simp only [Act.put, List.setIfInBounds_toArray, List.set_cons_zero, List.set_cons_succ]
  refine held_take (i := 3) (d := some 17) (v := ?_) (by kernel_rfl) (by kernel_rfl) (by kernel_rfl) (by kernel_rfl) (fun _ _ _ h => h) (fun o ho => ?_) hHeld ?_
  rotate_left
  · simp only [List.getElem?_toArray, List.getElem?_cons_zero, List.getElem?_cons_succ, Option.some.injEq] at ho
    subst ho
    refine ⟨by rfl, fun w hSw => ?_⟩
    (try dsimp only at hSw)
    go_simp
    try with_reducible rfl
  try simp only [Act.put, List.setIfInBounds_toArray, List.set_cons_zero, List.set_cons_succ]
  refine wpAnyH_ready (rs := [4]) (by kernel_rfl) (by simp) ?_
  refine held_step (i := 4) (by kernel_rfl) (fun o ho K' hK => ?_) ?_
  · simp only [List.getElem?_toArray, List.getElem?_cons_zero, List.getElem?_cons_succ, Option.some.injEq] at ho
    subst ho
    go_simp
    go_at_call 77
    refine (HC.out _ (Ext.refl A).drew).mono ?_
    rintro e w1 ⟨n, rfl, hx1⟩
    exact ⟨rfl, n, rfl, (Ext.refl A).drew.trans hx1⟩
  exact AllReadyH.nil

set_option maxRecDepth 100000 in
set_option maxHeartbeats 4000000 in
theorem ord_node_p (c : Roads) (hs : List Int) (w0 : World) (hb yb cb sb l : Nat) (hv lv fv nowv : Value) (now : List Int) (A : World) (f : Nat)
    (hH : IntsAt w0 hv hs) (hE : OrdEnv c hs w0 hb yb cb sb l hv lv fv A) (hN : IntsAt A nowv now) (hlen : now.length + (f + 1) = hs.length) (hl0 : hs.length ≤ 1000) (hnd : hs.Nodup)
    (ih : ∀ n nowv' A', n ∈ hs → n ∉ now → IntsAt A' nowv' (now ++ [n]) → OrdEnv c hs w0 hb yb cb sb l hv lv fv A' →
      Calls Tryz.prog 154 #[nowv', .pointer (some ⟨hb, 0, none⟩), .pointer (some ⟨yb, 0, none⟩), .pointer (some ⟨cb, 0, none⟩), .pointer (some ⟨sb, 0, none⟩)] A' (HeavyP A')) :
    Calls Tryz.prog 154 #[nowv, .pointer (some ⟨hb, 0, none⟩), .pointer (some ⟨yb, 0, none⟩), .pointer (some ⟨cb, 0, none⟩), .pointer (some ⟨sb, 0, none⟩)] A (HeavyP A) := by
  obtain ⟨a, k1, rfl, h1, h2, _⟩ := hN.open
  obtain ⟨a', k1', rfl, h1', h2', h3'⟩ := hH.open
  have e1 := hE.h
  have t1 : (now.length == hs.length) = false := by rw [beq_eq_false_iff_ne]; omega
  have t2 : ((now.length : Int) == (hs.length : Int)) = false := by rw [beq_eq_false_iff_ne]; omega
  have hmix : Tryz.prog.follows .mixedOrders = true := by kernel_rfl
  have HI := Lib.hid ih
  have HLE := Lib.hid hlen
  have HND := Lib.hid hnd
  clear ih hlen hnd
  go_enter Tryz.func154, Tryz.ntmps154
  go_wp2
  clear t1 t2
  go_loopw [23] (fun i wr => ∃ (j : Nat), j ≤ hs.length ∧ i = .int .i64 j ∧ Hid (∀ n, n ∈ hs.take j → n ∈ now) ∧ Ext A wr) (fun i _ => hs.length - (intOf i).toNat)
  case atStart => exact ⟨0, Nat.zero_le _, rfl, by simp [Hid], Ext.refl _⟩
  case round =>
    obtain ⟨j, hj, rfl, hall, hx⟩ := hrel
    have hEw := hE.ext' hx
    have hNw := hN.ext hx
    by_cases hlt : j < hs.length
    · obtain ⟨b, o, n, rfl, hnk, hc⟩ := h3' j hlt
      have hd := hEw.ext.cell hc
      have e1w := hEw.h
      have e2w := hEw.s
      clear hc h3' e1
      by_cases hmem : n ∈ now
      · have hdec : decide (n ∈ now) = true := by simpa using hmem
        have HCt := Lib.hid (fun w1 (hx : Ext wr w1) => Calls.mono (contains_any (.slice a now.length k1) now n w1 (hNw.ext hx)) (R' := fun e w' => e = .returned (.bool true) ∧ w' = w1) (fun e w' h => ⟨by rw [h.1, hdec], h.2.symm⟩))
        have HAL : Hid (∀ m, m ∈ hs.take (j + 1) → m ∈ now) := by
          intro m hm
          rw [List.take_add_one, hnk.out, List.mem_append] at hm
          rcases hm with hm | hm
          · exact hall.out m hm
          · rw [show m = n by simpa using hm]; exact hmem
        clear hNw
        go_upto_region 6 with fail
        go_quiet ((go_at_call 155; exact Calls.quiet_of_same (HCt.out _ ((Ext.refl wr).drewN _))))
        go_wp2
        go_roundw
        case rel => exact ⟨j + 1, by omega, by go_num, HAL, hx.drewN _⟩
        case measure => (simp [intOf]; omega)
      · have hdec : decide (n ∈ now) = false := by simpa using hmem
        have HCt := Lib.hid (fun w1 (hx : Ext wr w1) => hdec ▸ contains_any (.slice a now.length k1) now n w1 (hNw.ext hx))
        have HCl := Lib.hid (fun w1 (hx : Ext wr w1) => clone_any (.slice a now.length k1) now w1 (hNw.ext hx) (by have := HLE.out; omega))
        have HSm := Lib.hid (small_len (n := now.length) (by have := HLE.out; omega))
        clear hNw hdec
        go_upto_region 6 with fail
        refine wp_region_held_drew (S := (fun w' => w'.cell? ⟨sb, 0, none⟩ = some (.func (.func 154) #[] #[.pointer (some ⟨hb, 0, none⟩), .pointer (some ⟨yb, 0, none⟩), .pointer (some ⟨cb, 0, none⟩), .pointer (some ⟨sb, 0, none⟩)]))) (by kernel_rfl) ?_ (fun hHeld => ?_)
        · go_keep
        refine held_take (i := 0) (d := some 27) (v := ?_) (by kernel_rfl) (by kernel_rfl) (by kernel_rfl) (by kernel_rfl) (fun _ _ _ h => h) (fun o ho => ?_) hHeld ?_
        rotate_left
        · simp only [List.getElem?_toArray, List.getElem?_cons_zero, Option.some.injEq] at ho
          subst ho
          refine ⟨by rfl, fun w hSw => ?_⟩
          (try dsimp only at hSw)
          go_simp
          try with_reducible rfl
        try simp only [Act.put, List.setIfInBounds_toArray, List.set_cons_zero, List.set_cons_succ]
        refine held_take (i := 1) (d := some 28) (v := ?_) (by kernel_rfl) (by kernel_rfl) (by kernel_rfl) (by kernel_rfl) (fun _ _ _ h => h) (fun o ho => ?_) hHeld ?_
        rotate_left
        · simp only [List.getElem?_toArray, List.getElem?_cons_zero, List.getElem?_cons_succ, Option.some.injEq] at ho
          subst ho
          refine ⟨by rfl, fun w hSw => ?_⟩
          (try dsimp only at hSw)
          go_simp
          try with_reducible rfl
        try simp only [Act.put, List.setIfInBounds_toArray, List.set_cons_zero, List.set_cons_succ]
        refine wpAnyH_ready (rs := [2]) (by kernel_rfl) (by simp) ?_
        refine held_step (i := 2) (by kernel_rfl) (fun o ho K' hK => ?_) ?_
        · simp only [List.getElem?_toArray, List.getElem?_cons_zero, List.getElem?_cons_succ, Option.some.injEq] at ho
          subst ho
          go_simp
          go_at_call 155
          refine (HCt.out _ ((Ext.refl wr).drew)).mono ?_
          rintro e w1 ⟨rfl, rfl⟩
          try go_wp2_with fail
          refine hK.out _ _ ?_ (fun hHeld => ?_)
          · (first | go_keep | exact (((Ext.refl wr).drew).alloc _).cell e2w | exact (hxa.alloc _).cell e2w | exact hxa.cell e2w | exact hx2.cell e2w)
          clear hK K'
          try simp only [List.setIfInBounds_toArray, List.set_cons_zero, List.set_cons_succ]
          refine held_take (i := 3) (d := some 30) (v := ?_) (by kernel_rfl) (by kernel_rfl) (by kernel_rfl) (by kernel_rfl) (fun _ _ _ h => h) (fun o ho => ?_) hHeld ?_
          rotate_left
          · simp only [List.getElem?_toArray, List.getElem?_cons_zero, List.getElem?_cons_succ, Option.some.injEq] at ho
            subst ho
            refine ⟨by rfl, fun w hSw => ?_⟩
            (try dsimp only at hSw)
            go_simp
            try with_reducible rfl
          try simp only [Act.put, List.setIfInBounds_toArray, List.set_cons_zero, List.set_cons_succ]
          refine held_take (i := 4) (d := some 31) (v := ?_) (by kernel_rfl) (by kernel_rfl) (by kernel_rfl) (by kernel_rfl) (fun _ _ _ h => h) (fun o ho => ?_) hHeld ?_
          rotate_left
          · simp only [List.getElem?_toArray, List.getElem?_cons_zero, List.getElem?_cons_succ, Option.some.injEq] at ho
            subst ho
            refine ⟨by rfl, fun w hSw => ?_⟩
            (try dsimp only at hSw)
            go_simp
            try with_reducible rfl
          try simp only [Act.put, List.setIfInBounds_toArray, List.set_cons_zero, List.set_cons_succ]
          refine held_take (i := 5) (d := some 32) (v := ?_) (by kernel_rfl) (by kernel_rfl) (by kernel_rfl) (by kernel_rfl) (fun _ _ _ h => h) (fun o ho => ?_) hHeld ?_
          rotate_left
          · simp only [List.getElem?_toArray, List.getElem?_cons_zero, List.getElem?_cons_succ, Option.some.injEq] at ho
            subst ho
            refine ⟨by rfl, fun w hSw => ?_⟩
            (try dsimp only at hSw)
            go_simp
            try with_reducible rfl
          try simp only [Act.put, List.setIfInBounds_toArray, List.set_cons_zero, List.set_cons_succ]
          refine held_take (i := 6) (d := some 33) (v := ?_) (by kernel_rfl) (by kernel_rfl) (by kernel_rfl) (by kernel_rfl) (fun _ _ _ h => h) (fun o ho => ?_) hHeld ?_
          rotate_left
          · simp only [List.getElem?_toArray, List.getElem?_cons_zero, List.getElem?_cons_succ, Option.some.injEq] at ho
            subst ho
            refine ⟨by rfl, fun w hSw => ?_⟩
            (try dsimp only at hSw)
            go_simp
            try with_reducible rfl
          try simp only [Act.put, List.setIfInBounds_toArray, List.set_cons_zero, List.set_cons_succ]
          refine held_take (i := 8) (d := some 35) (v := ?_) (by kernel_rfl) (by kernel_rfl) (by kernel_rfl) (by kernel_rfl) (fun _ _ _ h => h) (fun o ho => ?_) hHeld ?_
          rotate_left
          · simp only [List.getElem?_toArray, List.getElem?_cons_zero, List.getElem?_cons_succ, Option.some.injEq] at ho
            subst ho
            refine ⟨by rfl, fun w hSw => ?_⟩
            (try dsimp only at hSw)
            go_simp
            try with_reducible rfl
          try simp only [Act.put, List.setIfInBounds_toArray, List.set_cons_zero, List.set_cons_succ]
          refine wpAnyH_ready (rs := [7, 9]) (by kernel_rfl) (by simp) ?_
          refine held_step (i := 7) (by kernel_rfl) (fun o ho K' hK => ?_) ?_
          · simp only [List.getElem?_toArray, List.getElem?_cons_zero, List.getElem?_cons_succ, Option.some.injEq] at ho
            subst ho
            go_simp
            go_at_call 104
            refine (HCl.out _ ((Ext.refl wr).drew)).mono ?_
            rintro e w1 ⟨v1, rfl, hown1, hx1⟩
            have hxa : Ext wr w1 := Ext.trans ((Ext.refl wr).drew) hx1
            have e3w := hxa.cell e2w
            try go_wp2_with fail
            refine hK.out _ _ ?_ (fun hHeld => ?_)
            · (first | go_keep | exact (((Ext.refl wr).drew).alloc _).cell e2w | exact (hxa.alloc _).cell e2w | exact hxa.cell e2w | exact hx2.cell e2w)
            clear hK K'
            try simp only [List.setIfInBounds_toArray, List.set_cons_zero, List.set_cons_succ]
            refine wpAnyH_ready (rs := [9]) (by kernel_rfl) (by simp) ?_
            refine held_step (i := 9) (by kernel_rfl) (fun o ho K' hK => ?_) ?_
            · simp only [List.getElem?_toArray, List.getElem?_cons_zero, List.getElem?_cons_succ, Option.some.injEq] at ho
              subst ho
              go_simp
              refine hK.out _ _ ?_ (fun hHeld => ?_)
              · (first | go_keep | exact (((Ext.refl wr).drew).alloc _).cell e2w | exact (hxa.alloc _).cell e2w | exact hxa.cell e2w | exact hx2.cell e2w)
              clear hK K'
              try simp only [List.setIfInBounds_toArray, List.set_cons_zero, List.set_cons_succ]
              refine wpAnyH_ready (rs := [10]) (by kernel_rfl) (by simp) ?_
              refine held_step (i := 10) (by kernel_rfl) (fun o ho K' hK => ?_) ?_
              · simp only [List.getElem?_toArray, List.getElem?_cons_zero, List.getElem?_cons_succ, Option.some.injEq] at ho
                subst ho
                refine step_append_row E_ints (by rfl) _ _ (by rfl) _ (by rfl) (hown1.alloc (Obj.cells #[.int .i64 n] 3)) (by rfl) (RowAt.new1 w1 #[.int .i64 n] 3) (by rfl) (by simp [Value.oneCell']) HSm.out.1 HSm.out.2 (Nat.le_trans hx1.size ((Ext.refl w1).alloc _).size) ?_
                intro v2 w2 hown2 hgrow _
                have hx2 : Ext wr w2 := (hxa.alloc _).grown hgrow (fun g hg => Nat.le_trans (Nat.le_refl _) (owns_block hown1 g hg))
                have e4w := hx2.cell e2w
                have hrow := row_push (Nat.le_refl _) hown2
                refine hK.out _ _ ?_ (fun hHeld => ?_)
                · (first | go_keep | exact (((Ext.refl wr).drew).alloc _).cell e2w | exact (hxa.alloc _).cell e2w | exact hxa.cell e2w | exact hx2.cell e2w)
                clear hK K'
                refine wpAnyH_ready (rs := [11]) (by kernel_rfl) (by simp) ?_
                refine held_step (i := 11) (by kernel_rfl) (fun o ho K' hK => ?_) ?_
                · simp only [List.getElem?_toArray, List.getElem?_cons_zero, List.getElem?_cons_succ, Option.some.injEq] at ho
                  subst ho
                  go_simp
                  go_at_call 154
                  refine (HI.out n v2 w2 (List.mem_of_getElem? hnk.out) hmem hrow.1 (hE.ext' (hx.trans hx2))).mono ?_
                  rintro e w4 ⟨m, rfl, hx4⟩
                  exact ⟨rfl, m, rfl, (hx.trans hx2).trans hx4⟩
                exact AllReadyH.nil
              exact AllReadyH.nil
            exact AllReadyH.nil
          refine held_step (i := 9) (by kernel_rfl) (fun o ho K' hK => ?_) ?_
          · simp only [List.getElem?_toArray, List.getElem?_cons_zero, List.getElem?_cons_succ, Option.some.injEq] at ho
            subst ho
            go_simp
            refine hK.out _ _ ?_ (fun hHeld => ?_)
            · (first | go_keep | exact (((Ext.refl wr).drew).alloc _).cell e2w | exact (hxa.alloc _).cell e2w | exact hxa.cell e2w | exact hx2.cell e2w)
            clear hK K'
            try simp only [List.setIfInBounds_toArray, List.set_cons_zero, List.set_cons_succ]
            refine wpAnyH_ready (rs := [7]) (by kernel_rfl) (by simp) ?_
            refine held_step (i := 7) (by kernel_rfl) (fun o ho K' hK => ?_) ?_
            · simp only [List.getElem?_toArray, List.getElem?_cons_zero, List.getElem?_cons_succ, Option.some.injEq] at ho
              subst ho
              go_simp
              go_at_call 104
              refine (HCl.out _ (((Ext.refl wr).drew).alloc _)).mono ?_
              rintro e w1 ⟨v1, rfl, hown1, hx1⟩
              have hxa : Ext wr w1 := Ext.trans (((Ext.refl wr).drew).alloc _) hx1
              have e3w := hxa.cell e2w
              try go_wp2_with fail
              refine hK.out _ _ ?_ (fun hHeld => ?_)
              · (first | go_keep | exact (((Ext.refl wr).drew).alloc _).cell e2w | exact (hxa.alloc _).cell e2w | exact hxa.cell e2w | exact hx2.cell e2w)
              clear hK K'
              try simp only [List.setIfInBounds_toArray, List.set_cons_zero, List.set_cons_succ]
              refine wpAnyH_ready (rs := [10]) (by kernel_rfl) (by simp) ?_
              refine held_step (i := 10) (by kernel_rfl) (fun o ho K' hK => ?_) ?_
              · simp only [List.getElem?_toArray, List.getElem?_cons_zero, List.getElem?_cons_succ, Option.some.injEq] at ho
                subst ho
                refine step_append_row E_ints (by rfl) _ _ (by rfl) _ (by rfl) hown1 (by rfl) ((RowAt.new1 wr.drew #[.int .i64 n] 3).ext hx1) (by rfl) (by simp [Value.oneCell']) HSm.out.1 HSm.out.2 hx1.size ?_
                intro v2 w2 hown2 hgrow _
                have hx2 : Ext wr w2 := hxa.grown hgrow (fun g hg => Nat.le_trans (((Ext.refl wr).drew).alloc _).size (owns_block hown1 g hg))
                have e4w := hx2.cell e2w
                have hrow := row_push (Nat.le_refl _) hown2
                refine hK.out _ _ ?_ (fun hHeld => ?_)
                · (first | go_keep | exact (((Ext.refl wr).drew).alloc _).cell e2w | exact (hxa.alloc _).cell e2w | exact hxa.cell e2w | exact hx2.cell e2w)
                clear hK K'
                refine wpAnyH_ready (rs := [11]) (by kernel_rfl) (by simp) ?_
                refine held_step (i := 11) (by kernel_rfl) (fun o ho K' hK => ?_) ?_
                · simp only [List.getElem?_toArray, List.getElem?_cons_zero, List.getElem?_cons_succ, Option.some.injEq] at ho
                  subst ho
                  go_simp
                  go_at_call 154
                  refine (HI.out n v2 w2 (List.mem_of_getElem? hnk.out) hmem hrow.1 (hE.ext' (hx.trans hx2))).mono ?_
                  rintro e w4 ⟨m, rfl, hx4⟩
                  exact ⟨rfl, m, rfl, (hx.trans hx2).trans hx4⟩
                exact AllReadyH.nil
              exact AllReadyH.nil
            exact AllReadyH.nil
          exact AllReadyH.nil
        exact AllReadyH.nil
    · exfalso
      have h1 : hs.length ≤ now.length := by
        exact nodup_le HND.out (fun n hn => hall.out n (by rw [List.take_of_length_le (by omega)]; exact hn))
      have := HLE.out
      omega

/-! ### The whole search, the iterator -/
theorem ord_all_p (c : Roads) (hs : List Int) (w0 : World) (hb yb cb sb l : Nat) (hv lv fv : Value)
    (hB : RoadsB c) (hR : RoadsAt w0 (.agg #[lv, .int .i64 c.bears, fv]) c) (hH : IntsAt w0 hv hs) (hl0 : hs.length ≤ 1000) (hnd : hs.Nodup)
    (hst : ∀ n, n ∈ hs → 1 ≤ n ∧ n ≤ c.loads.length) (hld : ∀ xs : List Int, xs.length = hs.length → xs.Nodup → (∀ n, n ∈ xs → n ∈ hs) → c.bears < loadOf c xs) :
    ∀ f now nowv A, now.length + f = hs.length → now.Nodup → (∀ n, n ∈ now → n ∈ hs) → IntsAt A nowv now → OrdEnv c hs w0 hb yb cb sb l hv lv fv A →
      Calls Tryz.prog 154 #[nowv, .pointer (some ⟨hb, 0, none⟩), .pointer (some ⟨yb, 0, none⟩), .pointer (some ⟨cb, 0, none⟩), .pointer (some ⟨sb, 0, none⟩)] A (HeavyP A) := by
  intro f
  induction f with
  | zero =>
    intro now nowv A hlen hnn hmem hN hE
    exact ord_leaf_p c hs w0 hb yb cb sb l hv lv fv nowv now A hB hR hH hE hN (by omega) hl0 (fun n hn => hst n (hmem n hn)) (hld now (by omega) hnn hmem)
  | succ f ih =>
    intro now nowv A hlen hnn hmem hN hE
    refine ord_node_p c hs w0 hb yb cb sb l hv lv fv nowv now A f hH hE hN hlen hl0 hnd ?_
    intro n nowv' A' hn hnn' hN' hE'
    refine ih (now ++ [n]) nowv' A' (by simp; omega) ?_ (fun m hm => ?_) hN' hE'
    · rw [List.nodup_append]
      refine ⟨hnn, by simp, ?_⟩
      intro a ha b hb e
      rw [List.mem_singleton.1 hb] at e
      exact hnn' (e ▸ ha)
    · rcases List.mem_append.1 hm with h | h
      · exact hmem m h
      · rw [List.mem_singleton.1 h]; exact hn
set_option maxRecDepth 100000 in
set_option maxHeartbeats 2000000 in
theorem orders_heavy (c : Roads) (hs : List Int) (w0 W : World) (hb cb l : Nat) (hv lv fv : Value)
    (hB : RoadsB c) (hR : RoadsAt w0 (.agg #[lv, .int .i64 c.bears, fv]) c) (hH : IntsAt w0 hv hs) (hl0 : hs.length ≤ 1000) (hnd : hs.Nodup)
    (hst : ∀ n, n ∈ hs → 1 ≤ n ∧ n ≤ c.loads.length) (hld : ∀ xs : List Int, xs.length = hs.length → xs.Nodup → (∀ n, n ∈ xs → n ∈ hs) → c.bears < loadOf c xs) (hx : Ext w0 W)
    (e1 : W.cell? ⟨hb, 0, none⟩ = some hv) (c0 : W.cell? ⟨cb, 0, none⟩ = some lv) (c1 : W.cell? ⟨cb, 1, none⟩ = some (.int .i64 c.bears)) (c2 : W.cell? ⟨cb, 2, none⟩ = some fv) :
    CallsIn Fence.wide 0 Tryz.prog 153 (#[.func (.yield l) #[] #[]] ++ #[.pointer (some ⟨hb, 0, none⟩), .pointer (some ⟨cb, 0, none⟩)]) W (HeavyP W) := by
  have hmix : Tryz.prog.follows .mixedOrders = true := by kernel_rfl
  have HA := Lib.hid (ord_all_p c hs w0 hb W.heap.size cb (W.heap.size + 1) l hv lv fv hB hR hH hl0 hnd hst hld)
  refine callsIn_of_wp Tryz.func153 rfl trivial ?_ rfl
  simp only [Tryz.ntmps153, List.size_toArray, List.length_cons, List.length_nil, Nat.reduceAdd, Nat.reduceSub, Array.replicate_succ, Array.replicate_zero, List.push_toArray, List.append_toArray, List.nil_append, List.cons_append]
  gi_wp2
  refine (wide_of (HA.out hs.length [] _ _ (by simp) (by simp) (by simp) (IntsAt.nil _) ⟨hx.trans (((Ext.refl W).alloc _).alloc _), (((Ext.refl W).alloc _).alloc _).cell e1, by go_simp, (((Ext.refl W).alloc _).alloc _).cell c0, (((Ext.refl W).alloc _).alloc _).cell c1, (((Ext.refl W).alloc _).alloc _).cell c2, by go_simp⟩)).mono ?_
  rintro e w1 ⟨n, rfl, hx1⟩
  exact ⟨rfl, n, rfl, (((Ext.refl W).alloc _).alloc _).trans hx1⟩
/-- A range over a function that gives up before any round. -/
theorem wpIn_range_heavy {g : Operand} {p : Tmp} {assign body : Code} {Q : Exit → Act → World → Prop} {a : Act} {w : World}
    {gf : Nat} {lb : Array Value} (hg : a.eval g = .func (.func gf) #[] lb) (eg : ∀ args w, (callFunc gf args).run Tryz.prog w = .ok (.enter gf args) w)
    (hiter : ∀ W1 l, Ext w W1 → CallsIn Fence.wide 0 Tryz.prog gf (#[.func (.yield l) #[] #[]] ++ lb) W1 (HeavyP W1))
    (hp : ∀ (D : Nat) (n : Int) (W : World), w.heap.size ≤ D → Ext w W → W.heap[D]? = some (.deferred (some [])) → Q (.panic [{ v := heavyV n, recovered := false }]) { a with defers := { target := .collected D, args := #[] } :: a.defers } W) :
    (Code.rangeFunc g #[p] assign body).wpIn Fence.wide 0 Tryz.prog Q a w := by
  refine wpIn_rangeFunc ?_
  intro fn hfn
  obtain ⟨rec, hrec⟩ : ∃ rec : LoopState → Option Code → Loop, rec = fun st pe => { state := st, pending := pe, fn, tmps := a.tmps, params := #[p], assign, body, defers := w.heap.size } := ⟨_, rfl⟩
  obtain ⟨W1, hW1⟩ : ∃ W1, (w.alloc (.deferred (some []))).alloc (.loop (rec .ready none)) = W1 := ⟨_, rfl⟩
  have hK1 : W1.heap[w.heap.size]? = some (.deferred (some [])) := by
    rw [← hW1]; exact (Below.heap_alloc _ _ _ (by simp)).trans (World.alloc_heap_new w _)
  have hE1 : Ext w W1 := by rw [← hW1]; exact ((Ext.refl w).alloc _).alloc _
  have hz1 : w.heap.size + 2 = W1.heap.size := by rw [← hW1]; simp
  refine ⟨w.heap.size + 1, [{ target := .collected w.heap.size, args := #[] }], W1, { target := .fn (.func gf) lb, args := #[.func (.yield (w.heap.size + 1)) #[] #[]] }, W1, gf,
    #[.func (.yield (w.heap.size + 1)) #[] #[]] ++ lb, W1, ?_, ?_, ?_, ?_, fun h => by simp [Fence.wide] at h, ?_⟩
  · rw [← hW1, hrec]; exact run_enterLoop_outer _ _ _ _ _
  · simp only [resolve, hg]
    simp [go_sem]
  · intro f' _; trivial
  · simp [invoke, go_sem, eg]
  · refine (hiter W1 (w.heap.size + 1) hE1).mono ?_
    rintro e W2 ⟨n, rfl, hx2⟩
    exact hp w.heap.size n W2 (Nat.le_refl _) (hE1.trans hx2) ((hx2.block (by omega)).trans hK1)
set_option maxRecDepth 100000 in
set_option maxHeartbeats 4000000 in
theorem best_heavy (w : World) (gf : Nat) (lb : Array Value) (bf : Nat) (cap : Array Value)
    (eg : ∀ args w, (callFunc gf args).run Tryz.prog w = .ok (.enter gf args) w)
    (hiter : ∀ W l, Ext w W → CallsIn Fence.wide 0 Tryz.prog gf (#[.func (.yield l) #[] #[]] ++ lb) W (HeavyP W)) :
    Calls Tryz.prog 132 #[.func (.func gf) #[] lb, .func (.func bf) #[] cap] w (HeavyP w) := by
  have hmix : Tryz.prog.follows .mixedOrders = true := by kernel_rfl
  have HI := Lib.hid hiter
  clear hiter
  refine (callsIn_wide (n := 0)).1 ?_
  refine callsIn_of_wp_marks Tryz.func132 rfl trivial ?_ rfl
  simp only [Tryz.ntmps132, List.size_toArray, List.length_cons, List.length_nil, Nat.reduceAdd, Nat.reduceSub, Array.replicate_succ, Array.replicate_zero, List.push_toArray, List.append_toArray, List.nil_append, List.cons_append]
  gi_wp2
  have h0 : Ext w ((((w.alloc (Obj.cells #[Value.func (Fn.func bf) #[] cap] 179)).alloc (Obj.cells #[Value.slice none 0 0, Value.int IntKind.i64 0] 137)).alloc (Obj.cells #[Value.slice none 0 0, Value.int IntKind.i64 0] 137)).alloc (Obj.cells #[Value.bool true] 4)) := (((((Ext.refl w).alloc _).alloc _).alloc _).alloc _)
  generalize hW0 : ((((w.alloc (Obj.cells #[Value.func (Fn.func bf) #[] cap] 179)).alloc (Obj.cells #[Value.slice none 0 0, Value.int IntKind.i64 0] 137)).alloc (Obj.cells #[Value.slice none 0 0, Value.int IntKind.i64 0] 137)).alloc (Obj.cells #[Value.bool true] 4)) = W0 at h0 ⊢
  have hz := h0.size
  refine wpIn_range_heavy (gf := gf) (lb := lb) (by rfl) eg (fun W1 l h1 => HI.out W1 l (h0.trans h1)) ?_
  intro D n W hD hx hd
  have hq : Quiet w.heap.size W (W.putObj D (.deferred none)) := Quiet.putObj _ hd (by omega) rfl
  refine ⟨by simp, .inl ⟨_, _, rfl, run_takeDeferred hd, ?_⟩⟩
  exact ⟨n, rfl, (h0.trans hx).quiet (Nat.le_refl _) hq⟩

set_option maxRecDepth 100000 in
set_option maxHeartbeats 4000000 in
theorem shortest_heavy (v hv : Value) (c : Roads) (hs : List Int) (w : World) (hB : RoadsB c) (hR : RoadsAt w v c) (hH : IntsAt w hv hs) (hl0 : hs.length ≤ 1000) (hnd : hs.Nodup)
    (hst : ∀ n, n ∈ hs → 1 ≤ n ∧ n ≤ c.loads.length) (hld : ∀ xs : List Int, xs.length = hs.length → xs.Nodup → (∀ n, n ∈ xs → n ∈ hs) → c.bears < loadOf c xs) :
    Calls Tryz.prog 100 #[v, hv] w (HeavyP w) := by
  have hR' := hR
  obtain ⟨lv, fv, rfl, hlv, hfv⟩ := hR'
  have HO := Lib.hid (fun w1 => orders_any lv fv hv c w1 (by obtain ⟨a, k, rfl, _⟩ := hlv.open; exact ⟨_, _, _, rfl⟩) (by obtain ⟨a, k, rfl, _⟩ := hfv.open; exact ⟨_, _, _, rfl⟩) (by obtain ⟨a, k, rfl, _⟩ := hH.open; exact ⟨_, _, _, rfl⟩))
  have HB := Lib.hid (fun w1 (hx : Ext w w1) hb cb e1 c0 c1 c2 => best_heavy w1 _ #[.pointer (some ⟨hb, 0, none⟩), .pointer (some ⟨cb, 0, none⟩)] 134 #[] enters_orders1 (fun W l h => orders_heavy c hs w W hb cb l hv lv fv hB hR hH hl0 hnd hst hld (hx.trans h) (h.cell e1) (h.cell c0) (h.cell c1) (h.cell c2)))
  obtain ⟨la, lk, rfl, _⟩ := hlv.open
  obtain ⟨fa, fk, rfl, _⟩ := hfv.open
  obtain ⟨ha, hk, rfl, _⟩ := hH.open
  clear hR hH hst hld hlv
  go_enter Tryz.func100, Tryz.ntmps100
  go_wp2_with (first | (go_at_call 133; refine (HO.out _).mono ?_; rintro e w1 ⟨hb, cb, rfl, hx1, e1, c0, c1, c2⟩) | (go_at_call 132; refine (HB.out w1 ((((Ext.refl w).alloc _).alloc _).trans hx1) hb cb e1 c0 c1 c2).mono ?_; rintro e w2 ⟨n, rfl, hx2⟩))
  exact ⟨rfl, n, rfl, ((((Ext.refl w).alloc _).alloc _).trans hx1).trans hx2⟩
set_option maxHeartbeats 2000000 in
theorem tour1_heavy (lv fv hv : Value) (c : Roads) (hs : List Int) (w : World) (hb cb tb : Nat) (hB : RoadsB c) (hR : RoadsAt w (.agg #[lv, .int .i64 c.bears, fv]) c) (hH : IntsAt w hv hs) (hl0 : hs.length ≤ 1000) (hnd : hs.Nodup)
    (hst : ∀ n, n ∈ hs → 1 ≤ n ∧ n ≤ c.loads.length) (hld : ∀ xs : List Int, xs.length = hs.length → xs.Nodup → (∀ n, n ∈ xs → n ∈ hs) → c.bears < loadOf c xs)
    (e1 : w.cell? ⟨hb, 0, none⟩ = some hv) (c0 : w.cell? ⟨cb, 0, none⟩ = some lv) (c1 : w.cell? ⟨cb, 1, none⟩ = some (.int .i64 c.bears)) (c2 : w.cell? ⟨cb, 2, none⟩ = some fv) :
    Calls Tryz.prog 99 #[.pointer (some ⟨cb, 0, none⟩), .pointer (some ⟨hb, 0, none⟩), .pointer (some ⟨tb, 0, none⟩)] w (HeavyP w) := by
  have HS := Lib.hid (shortest_heavy (.agg #[lv, .int .i64 c.bears, fv]) hv c hs w hB hR hH hl0 hnd hst hld)
  obtain ⟨lv', fv', hv0, hlv, hfv⟩ := hR
  cases hv0
  obtain ⟨la, lk, rfl, _⟩ := hlv.open
  obtain ⟨fa, fk, rfl, _⟩ := hfv.open
  obtain ⟨ha, hk, rfl, _⟩ := hH.open
  clear hH hst hld hlv
  go_enter Tryz.func99, Tryz.ntmps99
  go_wp2_with (go_at_call 100; refine HS.out.mono ?_; rintro e w1 ⟨n, rfl, hx1⟩)
  exact ⟨rfl, n, rfl, hx1⟩
set_option maxHeartbeats 2000000 in
theorem try1_heavy (b : Nat) (n : Int) (w : World) (x : Bool) (hc : w.cell? ⟨b, 0, none⟩ = some (.bool x)) (hz : w.frozen? ⟨b, 0, none⟩ = false) :
    CallsD Tryz.prog 118 #[.pointer (some ⟨b, 0, none⟩)] (.panicking [{ v := heavyV n, recovered := false }]) w fun e u' w' =>
      e = .returned (.tuple #[]) ∧ u' = .panicking [{ v := heavyV n, recovered := true }] ∧ w' = (w.alloc (.cells #[.int .i64 n] 156)).setCell ⟨b, 0, none⟩ (.bool false) := by
  have hta : ∀ wq, (Instr.typeAssert (.iface 156 (.agg #[.int .i64 n])) 20 156 true).run Tryz.prog wq = .ok (.tuple #[.agg #[.int .i64 n], .bool true]) wq := fun wq => by kernel_rfl
  have hc1 := ((Ext.refl w).alloc (.cells #[.int .i64 n] 156)).cell hc
  have hz1 := (((Ext.refl w).alloc (.cells #[.int .i64 n] 156)).frozen (lt_of_cell hc)).trans hz
  unfold heavyV
  refine callsD_of_wpS Tryz.func118 rfl fun c₀ cs hu => ?_
  apply wpS_seq
  apply wpS_region
  simp [wpOpsS, go_sem, recoverD, hu, Tryz.ntmps118, Exit.thenS]
  refine wpS_of_wp ?_
  go_wp2
  cases c₀
  simp_all [bodyPostS, results, Tryz.results118]
theorem try_heavy (f : Nat) (cap : Array Value) (ef : ∀ args w, (callFunc f args).run Tryz.prog w = .ok (.enter f args) w) (w : World)
    (hc : Calls Tryz.prog f cap (w.alloc (.cells #[.bool false] 4)) (HeavyP (w.alloc (.cells #[.bool false] 4)))) :
    Calls Tryz.prog 75 #[.func (.func f) #[] cap] w fun e w' => e = .returned (.bool false) ∧ Ext w w' := by
  have hmf : ∀ (fn : Fn) (first cap : Array Value) (w : World), (Instr.makeFunc fn first cap).run Tryz.prog w = .ok (.func fn first cap) w := fun _ _ _ _ => rfl
  have HC := Lib.hid hc
  clear hc
  go_enter_defers Tryz.func75, Tryz.ntmps75
  go_wp2_with (refine HC.out.mono ?_; rintro e w1 ⟨n, rfl, hx1⟩; have q0 := hx1.cell (a := ⟨w.heap.size, 0, none⟩) (v := .bool false) (by go_simp); have g0 := (hx1.frozen (a := ⟨w.heap.size, 0, none⟩) (by simp)).trans (c := false) (by go_simp))
  refine leaves_cons (f := 118) (args := #[.pointer (some ⟨w.heap.size, 0, none⟩)]) (by simp) (by simp [go_sem]) ?_
  refine (try1_heavy w.heap.size n w1 false q0 g0).mono ?_
  rintro e u' w'' ⟨rfl, rfl, rfl⟩
  have hxa : Ext w ((w1.alloc (.cells #[.int .i64 n] 156)).setCell ⟨w.heap.size, 0, none⟩ (.bool false)) := ((((Ext.refl w).alloc _).trans hx1).alloc _).setCell (Nat.le_refl _) _
  have q1 : ((w1.alloc (.cells #[.int .i64 n] 156)).setCell ⟨w.heap.size, 0, none⟩ (.bool false)).cell? ⟨w.heap.size, 0, none⟩ = some (.bool false) := World.cell?_setCell_same _ _ _ (((Ext.refl w1).alloc _).cell q0)
  simp [Leaves, settle, results, Tryz.results75, go_sem, q1]
  exact hxa
end Go.Proofs.YtapkbonlijhmjaaGreatDoor
