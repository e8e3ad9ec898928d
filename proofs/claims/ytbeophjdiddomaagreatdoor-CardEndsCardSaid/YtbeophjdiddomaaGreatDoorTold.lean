/- card.told: the numbers of a line, or giving up. -/
import Derived.Test.YtbeophjdiddomaaGreatDoorTextr
import Derived.Test.YtbeophjdiddomaaGreatDoorSearchr
namespace Go.Proofs.YtbeophjdiddomaaGreatDoor
open Go.RowKit

theorem owns_down {w : World} {base base' : Nat} {e : TypeId} {size : Nat} {v : Value} {n : Nat} {xs : List Value} (h : w.ownsRow base e size v n xs) (hb : base' ≤ base) : w.ownsRow base' e size v n xs := by
  refine ⟨h.1, ?_⟩
  rcases h.2 with h1 | ⟨g, cap, cur, h1, h2, h3⟩
  · exact .inl h1
  · exact .inr ⟨g, cap, cur, h1, by omega, h3⟩
/-- Which word a kind of lines has. -/
def NameAt (kind : Int) (word : List UInt8) : Prop := ∀ w, (Instr.index 169 (.agg #[strV wRound, strV wWeigh, strV wHouse, strV wAll]) (.int .i64 kind)).run Tryz.prog w = .ok (strV word) w
set_option maxRecDepth 100000 in
set_option maxHeartbeats 8000000 in
theorem told_len (s : List UInt8) (kind : Int) (word : List UInt8) (M : Nat) (w : World) (_ht : TabOk w) (hm : MaxOk w) (hs : s.length ≤ 1000) (hM : 2 ≤ M ∧ M ≤ 6) (_hnm : NameAt kind word) (hl : (splitL 32 s).length ≠ M + 1) : Calls Tryz.prog 89 #[strV s, .int .i64 kind, .int .i64 M] w (StrangeP w) := by
  have HSP := Lib.hid (split_any s 32 w hm hs)
  have HSU := Lib.hid sure_yes
  have HSN := Lib.hid sure_no
  have hmix : Tryz.prog.follows .mixedOrders = true := by kernel_rfl
  obtain ⟨M1, M2⟩ := hM
  have E1 : IntKind.i64.wrap ((M : Int) + 1) = (M : Int) + 1 := IntWalk.i64_in _ (by omega)
  have t1 : (((splitL 32 s).length : Int) == (M : Int) + 1) = false := by rw [beq_eq_false_iff_ne]; omega
  generalize (splitL 32 s).length = L at *
  clear hl M1 M2 hm
  go_enter Tryz.func89, Tryz.ntmps89
  go_upto_region 2 with (go_at_call 88; refine HSP.out.mono ?_; rintro e w1 ⟨b, rfl, hx1, hst⟩; have HST := Lib.hid hst; clear hst)
  refine wp_region_held_drew (S := (fun _ => True)) (by kernel_rfl) ?_ (fun hHeld => ?_)
  · trivial
  refine held_take (i := 0) (d := some 14) (v := ?_) (by kernel_rfl) (by kernel_rfl) (by kernel_rfl) (by kernel_rfl) (fun _ _ _ h => h) (fun o ho => ?_) hHeld ?_
  rotate_left
  · simp only [List.getElem?_toArray, List.getElem?_cons_zero, Option.some.injEq] at ho
    subst ho
    refine ⟨by rfl, fun w hSw => ?_⟩
    (try dsimp only at hSw)
    go_simp
    try with_reducible rfl
  try simp only [Act.put, List.setIfInBounds_toArray, List.set_cons_zero, List.set_cons_succ]
  refine held_take (i := 1) (d := some 15) (v := ?_) (by kernel_rfl) (by kernel_rfl) (by kernel_rfl) (by kernel_rfl) (fun _ _ _ h => h) (fun o ho => ?_) hHeld ?_
  rotate_left
  · simp only [List.getElem?_toArray, List.getElem?_cons_zero, List.getElem?_cons_succ, Option.some.injEq] at ho
    subst ho
    refine ⟨by rfl, fun w hSw => ?_⟩
    (try dsimp only at hSw)
    go_simp
    try with_reducible rfl
  try simp only [Act.put, List.setIfInBounds_toArray, List.set_cons_zero, List.set_cons_succ]
  refine held_take (i := 2) (d := some 16) (v := ?_) (by kernel_rfl) (by kernel_rfl) (by kernel_rfl) (by kernel_rfl) (fun _ _ _ h => h) (fun o ho => ?_) hHeld ?_
  rotate_left
  · simp only [List.getElem?_toArray, List.getElem?_cons_zero, List.getElem?_cons_succ, Option.some.injEq] at ho
    subst ho
    refine ⟨by rfl, fun w hSw => ?_⟩
    (try dsimp only at hSw)
    go_simp
    try with_reducible rfl
  try simp only [Act.put, List.setIfInBounds_toArray, List.set_cons_zero, List.set_cons_succ]
  refine held_take (i := 3) (d := some 17) (v := ?_) (by kernel_rfl) (by kernel_rfl) (by kernel_rfl) (by kernel_rfl) (fun _ _ _ h => h) (fun o ho => ?_) hHeld ?_
  rotate_left
  · simp only [List.getElem?_toArray, List.getElem?_cons_zero, List.getElem?_cons_succ, Option.some.injEq] at ho
    subst ho
    refine ⟨by rfl, fun w hSw => ?_⟩
    (try dsimp only at hSw)
    go_simp
    try with_reducible rfl
  try simp only [Act.put, List.setIfInBounds_toArray, List.set_cons_zero, List.set_cons_succ]
  refine held_take (i := 4) (d := some 18) (v := ?_) (by kernel_rfl) (by kernel_rfl) (by kernel_rfl) (by kernel_rfl) (fun _ _ _ h => h) (fun o ho => ?_) hHeld ?_
  rotate_left
  · simp only [List.getElem?_toArray, List.getElem?_cons_zero, List.getElem?_cons_succ, Option.some.injEq] at ho
    subst ho
    refine ⟨by rfl, fun w hSw => ?_⟩
    (try dsimp only at hSw)
    go_simp
    try with_reducible rfl
  try simp only [Act.put, List.setIfInBounds_toArray, List.set_cons_zero, List.set_cons_succ]
  refine held_take (i := 5) (d := some 19) (v := ?_) (by kernel_rfl) (by kernel_rfl) (by kernel_rfl) (by kernel_rfl) (fun _ _ _ h => h) (fun o ho => ?_) hHeld ?_
  rotate_left
  · simp only [List.getElem?_toArray, List.getElem?_cons_zero, List.getElem?_cons_succ, Option.some.injEq] at ho
    subst ho
    refine ⟨by rfl, fun w hSw => ?_⟩
    (try dsimp only at hSw)
    go_simp
    try with_reducible rfl
  try simp only [Act.put, List.setIfInBounds_toArray, List.set_cons_zero, List.set_cons_succ]
  refine held_skips (is := [6, 7, 8, 9, 10, 11, 12]) (k := 7) (l' := #[true, true, true, true, true, true, true, true, true, true, true, true, true, false, false, false]) (by kernel_rfl) rfl (by assumption) ?_
  refine held_take (i := 13) (d := some 27) (v := ?_) (by kernel_rfl) (by kernel_rfl) (by kernel_rfl) (by kernel_rfl) (fun _ _ _ h => h) (fun o ho => ?_) hHeld ?_
  rotate_left
  · simp only [List.getElem?_toArray, List.getElem?_cons_zero, List.getElem?_cons_succ, Option.some.injEq] at ho
    subst ho
    refine ⟨by rfl, fun w hSw => ?_⟩
    (try dsimp only at hSw)
    go_simp
    try with_reducible rfl
  try simp only [Act.put, List.setIfInBounds_toArray, List.set_cons_zero, List.set_cons_succ]
  refine held_take (i := 14) (d := some 28) (v := ?_) (by kernel_rfl) (by kernel_rfl) (by kernel_rfl) (by kernel_rfl) (fun _ _ _ h => h) (fun o ho => ?_) hHeld ?_
  rotate_left
  · simp only [List.getElem?_toArray, List.getElem?_cons_zero, List.getElem?_cons_succ, Option.some.injEq] at ho
    subst ho
    refine ⟨by rfl, fun w hSw => ?_⟩
    (try dsimp only at hSw)
    go_simp
    try with_reducible rfl
  try simp only [Act.put, List.setIfInBounds_toArray, List.set_cons_zero, List.set_cons_succ]
  refine wpAnyH_ready (rs := [15]) (by kernel_rfl) (by simp) ?_
  refine held_step (i := 15) (by kernel_rfl) (fun o ho K' hK => ?_) ?_
  · simp only [List.getElem?_toArray, List.getElem?_cons_zero, List.getElem?_cons_succ, Option.some.injEq] at ho
    subst ho
    go_simp
    go_at_call 90
    refine (HSN.out _ _).mono ?_
    rintro e w9 ⟨why, rfl, hx9⟩
    exact ⟨rfl, why, rfl, hx1.trans (((Ext.refl w1).drew).trans hx9)⟩
  exact AllReadyH.nil
set_option maxRecDepth 100000 in
set_option maxHeartbeats 8000000 in
theorem told_word (s : List UInt8) (kind : Int) (word : List UInt8) (M : Nat) (w : World) (ht : TabOk w) (hm : MaxOk w) (hs : s.length ≤ 1000) (hM : 2 ≤ M ∧ M ≤ 6) (hnm : NameAt kind word) (hl : (splitL 32 s).length = M + 1) (hw : (splitL 32 s).headD [] ≠ word) : Calls Tryz.prog 89 #[strV s, .int .i64 kind, .int .i64 M] w (StrangeP w) := by
  have HSP := Lib.hid (split_any s 32 w hm hs)
  have HSU := Lib.hid sure_yes
  have HSN := Lib.hid sure_no
  have hmix : Tryz.prog.follows .mixedOrders = true := by kernel_rfl
  obtain ⟨M1, M2⟩ := hM
  have E1 : IntKind.i64.wrap ((M : Int) + 1) = (M : Int) + 1 := IntWalk.i64_in _ (by omega)
  have t1 : ((M : Int) + 1 == (M : Int) + 1) = true := by simp
  have hM0 : ¬ M = 0 := by omega
  have b0 : (0 : Int) < (M : Int) + 1 := by omega
  have b0n : 0 < M + 1 := by omega
  have HL := Lib.hid hl
  have HNM := Lib.hid hnm
  have HTB := Lib.hid (fun w1 (hx : Ext w w1) => ht.ext hx)
  have HNY := Lib.hid (fun l w1 (hx : Ext w w1) (h : numOk l = true) => number_yes l w1 (ht.ext hx) h)
  have HNN := Lib.hid (fun l w1 (hx : Ext w w1) (h : numOk l = false) => number_no l w1 (ht.ext hx) h)
  rw [hl] at HSP
  have HW := Lib.hid hw
  clear hl ht hm hnm hw
  go_enter Tryz.func89, Tryz.ntmps89
  go_upto_region 2 with (go_at_call 88; refine HSP.out.mono ?_; rintro e w1 ⟨b, rfl, hx1, hst⟩; have HST := Lib.hid hst; clear hst)
  obtain ⟨q, hq⟩ : ∃ q, (splitL 32 s)[0]? = some q := by
    cases h : splitL 32 s with
    | nil => exact absurd h (splitL_ne 32 s)
    | cons x t => exact ⟨x, rfl⟩
  have z0 := strs_cell HST.out hq
  have hqd : (splitL 32 s).headD [] = q := by
    cases h : splitL 32 s with
    | nil => exact absurd h (splitL_ne 32 s)
    | cons x t => rw [h] at hq; simpa using hq
  have HS : Hid (∀ W, Ext w1 W → W.cell? ⟨b, 0, none⟩ = some (strV q)) := fun W h => h.cell z0
  have hne := HW.out
  rw [hqd] at hne
  have w1n : decide (q = word) = false := by simpa using hne
  have w2n : (q == word) = false := by simpa using hne
  have HNX := HNM.out
  unfold NameAt at HNX
  clear hne hqd hq
  refine wp_region_held_drew (S := (fun w' => w'.cell? ⟨b, 0, none⟩ = some (strV q))) (by kernel_rfl) ?_ (fun hHeld => ?_)
  · exact HS.out _ ((Ext.refl w1).drew)
  refine held_take (i := 0) (d := some 14) (v := ?_) (by kernel_rfl) (by kernel_rfl) (by kernel_rfl) (by kernel_rfl) (fun _ _ _ h => h) (fun o ho => ?_) hHeld ?_
  rotate_left
  · simp only [List.getElem?_toArray, List.getElem?_cons_zero, Option.some.injEq] at ho
    subst ho
    refine ⟨by rfl, fun w hSw => ?_⟩
    (try dsimp only at hSw)
    go_simp
    try with_reducible rfl
  try simp only [Act.put, List.setIfInBounds_toArray, List.set_cons_zero, List.set_cons_succ]
  refine held_take (i := 1) (d := some 15) (v := ?_) (by kernel_rfl) (by kernel_rfl) (by kernel_rfl) (by kernel_rfl) (fun _ _ _ h => h) (fun o ho => ?_) hHeld ?_
  rotate_left
  · simp only [List.getElem?_toArray, List.getElem?_cons_zero, List.getElem?_cons_succ, Option.some.injEq] at ho
    subst ho
    refine ⟨by rfl, fun w hSw => ?_⟩
    (try dsimp only at hSw)
    go_simp
    try with_reducible rfl
  try simp only [Act.put, List.setIfInBounds_toArray, List.set_cons_zero, List.set_cons_succ]
  refine held_take (i := 2) (d := some 16) (v := ?_) (by kernel_rfl) (by kernel_rfl) (by kernel_rfl) (by kernel_rfl) (fun _ _ _ h => h) (fun o ho => ?_) hHeld ?_
  rotate_left
  · simp only [List.getElem?_toArray, List.getElem?_cons_zero, List.getElem?_cons_succ, Option.some.injEq] at ho
    subst ho
    refine ⟨by rfl, fun w hSw => ?_⟩
    (try dsimp only at hSw)
    go_simp
    try with_reducible rfl
  try simp only [Act.put, List.setIfInBounds_toArray, List.set_cons_zero, List.set_cons_succ]
  refine held_take (i := 3) (d := some 17) (v := ?_) (by kernel_rfl) (by kernel_rfl) (by kernel_rfl) (by kernel_rfl) (fun _ _ _ h => h) (fun o ho => ?_) hHeld ?_
  rotate_left
  · simp only [List.getElem?_toArray, List.getElem?_cons_zero, List.getElem?_cons_succ, Option.some.injEq] at ho
    subst ho
    refine ⟨by rfl, fun w hSw => ?_⟩
    (try dsimp only at hSw)
    go_simp
    try with_reducible rfl
  try simp only [Act.put, List.setIfInBounds_toArray, List.set_cons_zero, List.set_cons_succ]
  refine held_take (i := 4) (d := some 18) (v := ?_) (by kernel_rfl) (by kernel_rfl) (by kernel_rfl) (by kernel_rfl) (fun _ _ _ h => h) (fun o ho => ?_) hHeld ?_
  rotate_left
  · simp only [List.getElem?_toArray, List.getElem?_cons_zero, List.getElem?_cons_succ, Option.some.injEq] at ho
    subst ho
    refine ⟨by rfl, fun w hSw => ?_⟩
    (try dsimp only at hSw)
    go_simp
    try with_reducible rfl
  try simp only [Act.put, List.setIfInBounds_toArray, List.set_cons_zero, List.set_cons_succ]
  refine held_take (i := 5) (d := some 19) (v := ?_) (by kernel_rfl) (by kernel_rfl) (by kernel_rfl) (by kernel_rfl) (fun _ _ _ h => h) (fun o ho => ?_) hHeld ?_
  rotate_left
  · simp only [List.getElem?_toArray, List.getElem?_cons_zero, List.getElem?_cons_succ, Option.some.injEq] at ho
    subst ho
    refine ⟨by rfl, fun w hSw => ?_⟩
    (try dsimp only at hSw)
    go_simp
    try with_reducible rfl
  try simp only [Act.put, List.setIfInBounds_toArray, List.set_cons_zero, List.set_cons_succ]
  refine held_take (i := 6) (d := some 20) (v := ?_) (by kernel_rfl) (by kernel_rfl) (by kernel_rfl) (by kernel_rfl) (fun _ _ _ h => h) (fun o ho => ?_) hHeld ?_
  rotate_left
  · simp only [List.getElem?_toArray, List.getElem?_cons_zero, List.getElem?_cons_succ, Option.some.injEq] at ho
    subst ho
    refine ⟨by rfl, fun w hSw => ?_⟩
    (try dsimp only at hSw)
    go_simp
    try with_reducible rfl
  try simp only [Act.put, List.setIfInBounds_toArray, List.set_cons_zero, List.set_cons_succ]
  refine held_take (i := 7) (d := some 21) (v := ?_) (by kernel_rfl) (by kernel_rfl) (by kernel_rfl) (by kernel_rfl) (fun _ _ _ h => h) (fun o ho => ?_) hHeld ?_
  rotate_left
  · simp only [List.getElem?_toArray, List.getElem?_cons_zero, List.getElem?_cons_succ, Option.some.injEq] at ho
    subst ho
    refine ⟨by rfl, fun w hSw => ?_⟩
    (try dsimp only at hSw)
    go_simp
    try with_reducible rfl
  try simp only [Act.put, List.setIfInBounds_toArray, List.set_cons_zero, List.set_cons_succ]
  refine held_take (i := 8) (d := some 22) (v := ?_) (by kernel_rfl) (by kernel_rfl) (by kernel_rfl) (by kernel_rfl) (fun _ _ _ h => h) (fun o ho => ?_) hHeld ?_
  rotate_left
  · simp only [List.getElem?_toArray, List.getElem?_cons_zero, List.getElem?_cons_succ, Option.some.injEq] at ho
    subst ho
    refine ⟨by rfl, fun w hSw => ?_⟩
    (try dsimp only at hSw)
    go_simp
    try with_reducible rfl
  try simp only [Act.put, List.setIfInBounds_toArray, List.set_cons_zero, List.set_cons_succ]
  refine held_take (i := 10) (d := some 24) (v := ?_) (by kernel_rfl) (by kernel_rfl) (by kernel_rfl) (by kernel_rfl) (fun _ _ _ h => h) (fun o ho => ?_) hHeld ?_
  rotate_left
  · simp only [List.getElem?_toArray, List.getElem?_cons_zero, List.getElem?_cons_succ, Option.some.injEq] at ho
    subst ho
    refine ⟨by rfl, fun w hSw => ?_⟩
    (try dsimp only at hSw)
    go_simp
    try with_reducible rfl
  try simp only [Act.put, List.setIfInBounds_toArray, List.set_cons_zero, List.set_cons_succ]
  refine held_take (i := 14) (d := some 28) (v := ?_) (by kernel_rfl) (by kernel_rfl) (by kernel_rfl) (by kernel_rfl) (fun _ _ _ h => h) (fun o ho => ?_) hHeld ?_
  rotate_left
  · simp only [List.getElem?_toArray, List.getElem?_cons_zero, List.getElem?_cons_succ, Option.some.injEq] at ho
    subst ho
    refine ⟨by rfl, fun w hSw => ?_⟩
    (try dsimp only at hSw)
    go_simp
    try with_reducible rfl
  try simp only [Act.put, List.setIfInBounds_toArray, List.set_cons_zero, List.set_cons_succ]
  refine wpAnyH_ready (rs := [9]) (by kernel_rfl) (by simp) ?_
  refine held_step (i := 9) (by kernel_rfl) (fun o ho K' hK => ?_) ?_
  · simp only [List.getElem?_toArray, List.getElem?_cons_zero, List.getElem?_cons_succ, Option.some.injEq] at ho
    subst ho
    go_simp
    go_at_call 112
    refine (names_any _).mono ?_
    rintro e w2 ⟨rfl, hx2⟩
    have hy2 := ((Ext.refl w1).drew).trans hx2
    refine hK.out _ _ ?_ (fun hHeld => ?_)
    · first | exact HS.out _ hy2 | exact HS.out _ ((Ext.refl w1).drew)
    clear hK K'
    try simp only [List.setIfInBounds_toArray, List.set_cons_zero, List.set_cons_succ]
    refine held_take (i := 11) (d := some 25) (v := ?_) (by kernel_rfl) (by kernel_rfl) (by kernel_rfl) (by kernel_rfl) (fun _ _ _ h => h) (fun o ho => ?_) hHeld ?_
    rotate_left
    · simp only [List.getElem?_toArray, List.getElem?_cons_zero, List.getElem?_cons_succ, Option.some.injEq] at ho
      subst ho
      refine ⟨by rfl, fun w hSw => ?_⟩
      (try dsimp only at hSw)
      go_simp
      try simp only [HNX]
      try rfl
    try simp only [Act.put, List.setIfInBounds_toArray, List.set_cons_zero, List.set_cons_succ]
    refine held_take (i := 12) (d := some 26) (v := ?_) (by kernel_rfl) (by kernel_rfl) (by kernel_rfl) (by kernel_rfl) (fun _ _ _ h => h) (fun o ho => ?_) hHeld ?_
    rotate_left
    · simp only [List.getElem?_toArray, List.getElem?_cons_zero, List.getElem?_cons_succ, Option.some.injEq] at ho
      subst ho
      refine ⟨by rfl, fun w hSw => ?_⟩
      (try dsimp only at hSw)
      go_simp
      try with_reducible rfl
    try simp only [Act.put, List.setIfInBounds_toArray, List.set_cons_zero, List.set_cons_succ]
    refine held_take (i := 13) (d := some 27) (v := ?_) (by kernel_rfl) (by kernel_rfl) (by kernel_rfl) (by kernel_rfl) (fun _ _ _ h => h) (fun o ho => ?_) hHeld ?_
    rotate_left
    · simp only [List.getElem?_toArray, List.getElem?_cons_zero, List.getElem?_cons_succ, Option.some.injEq] at ho
      subst ho
      refine ⟨by rfl, fun w hSw => ?_⟩
      (try dsimp only at hSw)
      go_simp
      try with_reducible rfl
    try simp only [Act.put, List.setIfInBounds_toArray, List.set_cons_zero, List.set_cons_succ]
    refine wpAnyH_ready (rs := [15]) (by kernel_rfl) (by simp) ?_
    refine held_step (i := 15) (by kernel_rfl) (fun o ho K' hK => ?_) ?_
    · simp only [List.getElem?_toArray, List.getElem?_cons_zero, List.getElem?_cons_succ, Option.some.injEq] at ho
      subst ho
      go_simp
      go_at_call 90
      refine (HSN.out _ _).mono ?_
      rintro e w9 ⟨why, rfl, hx9⟩
      exact ⟨rfl, why, rfl, hx1.trans (hy2.trans hx9)⟩
    exact AllReadyH.nil
  exact AllReadyH.nil
set_option maxRecDepth 100000 in
set_option maxHeartbeats 8000000 in
theorem told_yes (s : List UInt8) (kind : Int) (word : List UInt8) (M : Nat) (w : World) (ht : TabOk w) (hm : MaxOk w) (hs : s.length ≤ 1000) (hM : 2 ≤ M ∧ M ≤ 6) (hnm : NameAt kind word) (hl : (splitL 32 s).length = M + 1) (hw : (splitL 32 s).headD [] = word) (hall : ∀ x, x ∈ (splitL 32 s).drop 1 → numOk x = true) : Calls Tryz.prog 89 #[strV s, .int .i64 kind, .int .i64 M] w fun e w' => ∃ v1, e = .returned v1 ∧ Ext w w' ∧ w'.ownsRow w.heap.size 3 1 v1 (toldN s).length ((toldN s).map (.int .i64)) := by
  have HSP := Lib.hid (split_any s 32 w hm hs)
  have HSU := Lib.hid sure_yes
  have HSN := Lib.hid sure_no
  have hmix : Tryz.prog.follows .mixedOrders = true := by kernel_rfl
  obtain ⟨M1, M2⟩ := hM
  have E1 : IntKind.i64.wrap ((M : Int) + 1) = (M : Int) + 1 := IntWalk.i64_in _ (by omega)
  have t1 : ((M : Int) + 1 == (M : Int) + 1) = true := by simp
  have hM0 : ¬ M = 0 := by omega
  have b0 : (0 : Int) < (M : Int) + 1 := by omega
  have b0n : 0 < M + 1 := by omega
  have HL := Lib.hid hl
  have HNM := Lib.hid hnm
  have HTB := Lib.hid (fun w1 (hx : Ext w w1) => ht.ext hx)
  have HNY := Lib.hid (fun l w1 (hx : Ext w w1) (h : numOk l = true) => number_yes l w1 (ht.ext hx) h)
  have HNN := Lib.hid (fun l w1 (hx : Ext w w1) (h : numOk l = false) => number_no l w1 (ht.ext hx) h)
  rw [hl] at HSP
  have HW := Lib.hid hw
  have HALL := Lib.hid hall
  have HTLD : Hid ((toldN s).length = M) := by unfold Hid toldN; rw [List.length_map, List.length_drop]; omega
  clear hl ht hm hnm hw hall
  go_enter Tryz.func89, Tryz.ntmps89
  go_upto_region 2 with (go_at_call 88; refine HSP.out.mono ?_; rintro e w1 ⟨b, rfl, hx1, hst⟩; have HST := Lib.hid hst; clear hst)
  obtain ⟨q, hq⟩ : ∃ q, (splitL 32 s)[0]? = some q := by
    cases h : splitL 32 s with
    | nil => exact absurd h (splitL_ne 32 s)
    | cons x t => exact ⟨x, rfl⟩
  have z0 := strs_cell HST.out hq
  have hqd : (splitL 32 s).headD [] = q := by
    cases h : splitL 32 s with
    | nil => exact absurd h (splitL_ne 32 s)
    | cons x t => rw [h] at hq; simpa using hq
  have HS : Hid (∀ W, Ext w1 W → W.cell? ⟨b, 0, none⟩ = some (strV q)) := fun W h => h.cell z0
  have hqe := HW.out
  rw [hqd] at hqe
  subst hqe
  have HNX := HNM.out
  unfold NameAt at HNX
  clear hqd hq
  refine wp_region_held_drew (S := (fun w' => w'.cell? ⟨b, 0, none⟩ = some (strV q))) (by kernel_rfl) ?_ (fun hHeld => ?_)
  · exact HS.out _ ((Ext.refl w1).drew)
  refine held_take (i := 0) (d := some 14) (v := ?_) (by kernel_rfl) (by kernel_rfl) (by kernel_rfl) (by kernel_rfl) (fun _ _ _ h => h) (fun o ho => ?_) hHeld ?_
  rotate_left
  · simp only [List.getElem?_toArray, List.getElem?_cons_zero, Option.some.injEq] at ho
    subst ho
    refine ⟨by rfl, fun w hSw => ?_⟩
    (try dsimp only at hSw)
    go_simp
    try with_reducible rfl
  try simp only [Act.put, List.setIfInBounds_toArray, List.set_cons_zero, List.set_cons_succ]
  refine held_take (i := 1) (d := some 15) (v := ?_) (by kernel_rfl) (by kernel_rfl) (by kernel_rfl) (by kernel_rfl) (fun _ _ _ h => h) (fun o ho => ?_) hHeld ?_
  rotate_left
  · simp only [List.getElem?_toArray, List.getElem?_cons_zero, List.getElem?_cons_succ, Option.some.injEq] at ho
    subst ho
    refine ⟨by rfl, fun w hSw => ?_⟩
    (try dsimp only at hSw)
    go_simp
    try with_reducible rfl
  try simp only [Act.put, List.setIfInBounds_toArray, List.set_cons_zero, List.set_cons_succ]
  refine held_take (i := 2) (d := some 16) (v := ?_) (by kernel_rfl) (by kernel_rfl) (by kernel_rfl) (by kernel_rfl) (fun _ _ _ h => h) (fun o ho => ?_) hHeld ?_
  rotate_left
  · simp only [List.getElem?_toArray, List.getElem?_cons_zero, List.getElem?_cons_succ, Option.some.injEq] at ho
    subst ho
    refine ⟨by rfl, fun w hSw => ?_⟩
    (try dsimp only at hSw)
    go_simp
    try with_reducible rfl
  try simp only [Act.put, List.setIfInBounds_toArray, List.set_cons_zero, List.set_cons_succ]
  refine held_take (i := 3) (d := some 17) (v := ?_) (by kernel_rfl) (by kernel_rfl) (by kernel_rfl) (by kernel_rfl) (fun _ _ _ h => h) (fun o ho => ?_) hHeld ?_
  rotate_left
  · simp only [List.getElem?_toArray, List.getElem?_cons_zero, List.getElem?_cons_succ, Option.some.injEq] at ho
    subst ho
    refine ⟨by rfl, fun w hSw => ?_⟩
    (try dsimp only at hSw)
    go_simp
    try with_reducible rfl
  try simp only [Act.put, List.setIfInBounds_toArray, List.set_cons_zero, List.set_cons_succ]
  refine held_take (i := 4) (d := some 18) (v := ?_) (by kernel_rfl) (by kernel_rfl) (by kernel_rfl) (by kernel_rfl) (fun _ _ _ h => h) (fun o ho => ?_) hHeld ?_
  rotate_left
  · simp only [List.getElem?_toArray, List.getElem?_cons_zero, List.getElem?_cons_succ, Option.some.injEq] at ho
    subst ho
    refine ⟨by rfl, fun w hSw => ?_⟩
    (try dsimp only at hSw)
    go_simp
    try with_reducible rfl
  try simp only [Act.put, List.setIfInBounds_toArray, List.set_cons_zero, List.set_cons_succ]
  refine held_take (i := 5) (d := some 19) (v := ?_) (by kernel_rfl) (by kernel_rfl) (by kernel_rfl) (by kernel_rfl) (fun _ _ _ h => h) (fun o ho => ?_) hHeld ?_
  rotate_left
  · simp only [List.getElem?_toArray, List.getElem?_cons_zero, List.getElem?_cons_succ, Option.some.injEq] at ho
    subst ho
    refine ⟨by rfl, fun w hSw => ?_⟩
    (try dsimp only at hSw)
    go_simp
    try with_reducible rfl
  try simp only [Act.put, List.setIfInBounds_toArray, List.set_cons_zero, List.set_cons_succ]
  refine held_take (i := 6) (d := some 20) (v := ?_) (by kernel_rfl) (by kernel_rfl) (by kernel_rfl) (by kernel_rfl) (fun _ _ _ h => h) (fun o ho => ?_) hHeld ?_
  rotate_left
  · simp only [List.getElem?_toArray, List.getElem?_cons_zero, List.getElem?_cons_succ, Option.some.injEq] at ho
    subst ho
    refine ⟨by rfl, fun w hSw => ?_⟩
    (try dsimp only at hSw)
    go_simp
    try with_reducible rfl
  try simp only [Act.put, List.setIfInBounds_toArray, List.set_cons_zero, List.set_cons_succ]
  refine held_take (i := 7) (d := some 21) (v := ?_) (by kernel_rfl) (by kernel_rfl) (by kernel_rfl) (by kernel_rfl) (fun _ _ _ h => h) (fun o ho => ?_) hHeld ?_
  rotate_left
  · simp only [List.getElem?_toArray, List.getElem?_cons_zero, List.getElem?_cons_succ, Option.some.injEq] at ho
    subst ho
    refine ⟨by rfl, fun w hSw => ?_⟩
    (try dsimp only at hSw)
    go_simp
    try with_reducible rfl
  try simp only [Act.put, List.setIfInBounds_toArray, List.set_cons_zero, List.set_cons_succ]
  refine held_take (i := 8) (d := some 22) (v := ?_) (by kernel_rfl) (by kernel_rfl) (by kernel_rfl) (by kernel_rfl) (fun _ _ _ h => h) (fun o ho => ?_) hHeld ?_
  rotate_left
  · simp only [List.getElem?_toArray, List.getElem?_cons_zero, List.getElem?_cons_succ, Option.some.injEq] at ho
    subst ho
    refine ⟨by rfl, fun w hSw => ?_⟩
    (try dsimp only at hSw)
    go_simp
    try with_reducible rfl
  try simp only [Act.put, List.setIfInBounds_toArray, List.set_cons_zero, List.set_cons_succ]
  refine held_take (i := 10) (d := some 24) (v := ?_) (by kernel_rfl) (by kernel_rfl) (by kernel_rfl) (by kernel_rfl) (fun _ _ _ h => h) (fun o ho => ?_) hHeld ?_
  rotate_left
  · simp only [List.getElem?_toArray, List.getElem?_cons_zero, List.getElem?_cons_succ, Option.some.injEq] at ho
    subst ho
    refine ⟨by rfl, fun w hSw => ?_⟩
    (try dsimp only at hSw)
    go_simp
    try with_reducible rfl
  try simp only [Act.put, List.setIfInBounds_toArray, List.set_cons_zero, List.set_cons_succ]
  refine held_take (i := 14) (d := some 28) (v := ?_) (by kernel_rfl) (by kernel_rfl) (by kernel_rfl) (by kernel_rfl) (fun _ _ _ h => h) (fun o ho => ?_) hHeld ?_
  rotate_left
  · simp only [List.getElem?_toArray, List.getElem?_cons_zero, List.getElem?_cons_succ, Option.some.injEq] at ho
    subst ho
    refine ⟨by rfl, fun w hSw => ?_⟩
    (try dsimp only at hSw)
    go_simp
    try with_reducible rfl
  try simp only [Act.put, List.setIfInBounds_toArray, List.set_cons_zero, List.set_cons_succ]
  refine wpAnyH_ready (rs := [9]) (by kernel_rfl) (by simp) ?_
  refine held_step (i := 9) (by kernel_rfl) (fun o ho K' hK => ?_) ?_
  · simp only [List.getElem?_toArray, List.getElem?_cons_zero, List.getElem?_cons_succ, Option.some.injEq] at ho
    subst ho
    go_simp
    go_at_call 112
    refine (names_any _).mono ?_
    rintro e w2 ⟨rfl, hx2⟩
    have hy2 := ((Ext.refl w1).drew).trans hx2
    refine hK.out _ _ ?_ (fun hHeld => ?_)
    · first | exact HS.out _ hy2 | exact HS.out _ ((Ext.refl w1).drew)
    clear hK K'
    try simp only [List.setIfInBounds_toArray, List.set_cons_zero, List.set_cons_succ]
    refine held_take (i := 11) (d := some 25) (v := ?_) (by kernel_rfl) (by kernel_rfl) (by kernel_rfl) (by kernel_rfl) (fun _ _ _ h => h) (fun o ho => ?_) hHeld ?_
    rotate_left
    · simp only [List.getElem?_toArray, List.getElem?_cons_zero, List.getElem?_cons_succ, Option.some.injEq] at ho
      subst ho
      refine ⟨by rfl, fun w hSw => ?_⟩
      (try dsimp only at hSw)
      go_simp
      try simp only [HNX]
      try rfl
    try simp only [Act.put, List.setIfInBounds_toArray, List.set_cons_zero, List.set_cons_succ]
    refine held_take (i := 12) (d := some 26) (v := ?_) (by kernel_rfl) (by kernel_rfl) (by kernel_rfl) (by kernel_rfl) (fun _ _ _ h => h) (fun o ho => ?_) hHeld ?_
    rotate_left
    · simp only [List.getElem?_toArray, List.getElem?_cons_zero, List.getElem?_cons_succ, Option.some.injEq] at ho
      subst ho
      refine ⟨by rfl, fun w hSw => ?_⟩
      (try dsimp only at hSw)
      go_simp
      try with_reducible rfl
    try simp only [Act.put, List.setIfInBounds_toArray, List.set_cons_zero, List.set_cons_succ]
    refine held_take (i := 13) (d := some 27) (v := ?_) (by kernel_rfl) (by kernel_rfl) (by kernel_rfl) (by kernel_rfl) (fun _ _ _ h => h) (fun o ho => ?_) hHeld ?_
    rotate_left
    · simp only [List.getElem?_toArray, List.getElem?_cons_zero, List.getElem?_cons_succ, Option.some.injEq] at ho
      subst ho
      refine ⟨by rfl, fun w hSw => ?_⟩
      (try dsimp only at hSw)
      go_simp
      try with_reducible rfl
    try simp only [Act.put, List.setIfInBounds_toArray, List.set_cons_zero, List.set_cons_succ]
    refine wpAnyH_ready (rs := [15]) (by kernel_rfl) (by simp) ?_
    refine held_step (i := 15) (by kernel_rfl) (fun o ho K' hK => ?_) ?_
    · simp only [List.getElem?_toArray, List.getElem?_cons_zero, List.getElem?_cons_succ, Option.some.injEq] at ho
      subst ho
      go_simp
      go_at_call 90
      refine (HSU.out _ _).mono ?_
      rintro e w9 ⟨rfl, rfl⟩
      refine hK.out _ _ ?_ (fun hHeld => ?_)
      · first | exact HS.out _ hy2 | exact HS.out _ ((Ext.refl w1).drew)
      clear hK K'
      try simp only [List.setIfInBounds_toArray, List.set_cons_zero, List.set_cons_succ]
      refine wpAnyH_done (by kernel_rfl) ?_ _
      try simp only [List.setIfInBounds_toArray, List.set_cons_zero, List.set_cons_succ]
      clear HSU HSN z0 HS HNX
      have hw9 : Ext w w9 := hx1.trans hy2
      have HX2 := Lib.hid hw9
      have HST2 := Lib.hid (HST.out.ext hy2)
      clear HST hx1 hx2 hy2
      go_wp2
      go_loopw [8, 33] (fun ov i wr => ∃ j : Nat, j ≤ M ∧ i = .int .i64 j ∧ wr.ownsRow w9.heap.size 3 1 ov j (((toldN s).take j).map (.int .i64)) ∧ Ext w9 wr) (fun _ i _ => M - (intOf i).toNat)
      case atStart => exact ⟨0, Nat.zero_le _, rfl, World.ownsRow_nil _ _ _ _, Ext.refl _⟩
      case round =>
        obtain ⟨j, hj, rfl, hown, hx⟩ := hrel
        by_cases hlt : j < M
        · obtain ⟨l, hl⟩ : ∃ l, (splitL 32 s)[1 + j]? = some l := ⟨_, List.getElem?_eq_getElem (by rw [HL.out]; omega)⟩
          have z1 := hx.cell (strs_cell HST2.out hl)
          have x1 : decide ((j : Int) < (M : Int)) = true := by simpa using hlt
          have x2 : (j : Int) < (M : Int) := by omega
          have x3 : (0 : Int) ≤ (j : Int) := by omega
          have hdl : ((splitL 32 s).drop 1)[j]? = some l := by rw [List.getElem?_drop]; exact hl
          have HOK : Hid (numOk l = true) := HALL.out l (List.mem_of_getElem? hdl)
          have hns : (toldN s)[j]? = some (valT l) := by unfold toldN; rw [List.getElem?_map, hdl]; rfl
          have HTK : Hid ((toldN s).take (j + 1) = (toldN s).take j ++ [valT l]) := by unfold Hid; rw [List.take_add_one, hns]; rfl
          have hs1 : j + 1 ≤ maxLen ∧ (j + 1) * 8 ≤ 140737488355328 := by unfold maxLen; omega
          have HS1 := Lib.hid hs1
          have HO := Lib.hid hown
          have HXR := Lib.hid hx
          clear hown hs1 hns
          go_wp2_with (first
            | (go_at_call 118; refine (HNY.out _ _ (HX2.out.trans HXR.out) HOK.out).mono ?_; rintro e w3 ⟨rfl, hx3⟩; have hy3 := HXR.out.trans hx3; have hz3 := hy3.size)
            | (at_builtin; refine wpList_push_at E_ints rfl _ _ rfl w9.heap.size rfl (owns_ext HO.out hx3) rfl rfl rfl (by simp [Value.oneCell']) ?_ HS1.out.1 HS1.out.2 hz3; intro g cap w4 hown4 hext4 hg4 hloc4; have hx4 := hext4 _ hy3 (Nat.le_refl _); have HO4 := Lib.hid hown4; clear hown4 hext4 hg4 hloc4))
          refine ⟨⟨j + 1, by omega, by go_num, by rw [HTK.out, List.map_append]; exact HO4.out, hx4⟩, by simp [intOf]; omega⟩
        · have hje : j = M := by omega
          have HF : Hid (wr.ownsRow w.heap.size 3 1 u8 (toldN s).length ((toldN s).map (.int .i64))) := by
            have htl := (HTLD.out)
            unfold Hid
            rw [htl, ← hje]
            have := owns_down hown HX2.out.size
            rwa [List.take_of_length_le (by omega)] at this
          have x1 : decide ((j : Int) < (M : Int)) = false := by simpa using hlt
          clear hje hown
          go_wp2
          go_ret
          exact ⟨_, rfl, HX2.out.trans hx, HF.out⟩
    exact AllReadyH.nil
  exact AllReadyH.nil
set_option maxRecDepth 100000 in
set_option maxHeartbeats 8000000 in
theorem told_num (s : List UInt8) (kind : Int) (word : List UInt8) (M : Nat) (w : World) (ht : TabOk w) (hm : MaxOk w) (hs : s.length ≤ 1000) (hM : 2 ≤ M ∧ M ≤ 6) (hnm : NameAt kind word) (hl : (splitL 32 s).length = M + 1) (hw : (splitL 32 s).headD [] = word) (hbad : ¬ ∀ x, x ∈ (splitL 32 s).drop 1 → numOk x = true) : Calls Tryz.prog 89 #[strV s, .int .i64 kind, .int .i64 M] w (StrangeP w) := by
  have HSP := Lib.hid (split_any s 32 w hm hs)
  have HSU := Lib.hid sure_yes
  have HSN := Lib.hid sure_no
  have hmix : Tryz.prog.follows .mixedOrders = true := by kernel_rfl
  obtain ⟨M1, M2⟩ := hM
  have E1 : IntKind.i64.wrap ((M : Int) + 1) = (M : Int) + 1 := IntWalk.i64_in _ (by omega)
  have t1 : ((M : Int) + 1 == (M : Int) + 1) = true := by simp
  have hM0 : ¬ M = 0 := by omega
  have b0 : (0 : Int) < (M : Int) + 1 := by omega
  have b0n : 0 < M + 1 := by omega
  have HL := Lib.hid hl
  have HNM := Lib.hid hnm
  have HTB := Lib.hid (fun w1 (hx : Ext w w1) => ht.ext hx)
  have HNY := Lib.hid (fun l w1 (hx : Ext w w1) (h : numOk l = true) => number_yes l w1 (ht.ext hx) h)
  have HNN := Lib.hid (fun l w1 (hx : Ext w w1) (h : numOk l = false) => number_no l w1 (ht.ext hx) h)
  rw [hl] at HSP
  have HW := Lib.hid hw
  have HBAD := Lib.hid hbad
  clear hl ht hm hnm hw hbad
  go_enter Tryz.func89, Tryz.ntmps89
  go_upto_region 2 with (go_at_call 88; refine HSP.out.mono ?_; rintro e w1 ⟨b, rfl, hx1, hst⟩; have HST := Lib.hid hst; clear hst)
  obtain ⟨q, hq⟩ : ∃ q, (splitL 32 s)[0]? = some q := by
    cases h : splitL 32 s with
    | nil => exact absurd h (splitL_ne 32 s)
    | cons x t => exact ⟨x, rfl⟩
  have z0 := strs_cell HST.out hq
  have hqd : (splitL 32 s).headD [] = q := by
    cases h : splitL 32 s with
    | nil => exact absurd h (splitL_ne 32 s)
    | cons x t => rw [h] at hq; simpa using hq
  have HS : Hid (∀ W, Ext w1 W → W.cell? ⟨b, 0, none⟩ = some (strV q)) := fun W h => h.cell z0
  have hqe := HW.out
  rw [hqd] at hqe
  subst hqe
  have HNX := HNM.out
  unfold NameAt at HNX
  clear hqd hq
  refine wp_region_held_drew (S := (fun w' => w'.cell? ⟨b, 0, none⟩ = some (strV q))) (by kernel_rfl) ?_ (fun hHeld => ?_)
  · exact HS.out _ ((Ext.refl w1).drew)
  refine held_take (i := 0) (d := some 14) (v := ?_) (by kernel_rfl) (by kernel_rfl) (by kernel_rfl) (by kernel_rfl) (fun _ _ _ h => h) (fun o ho => ?_) hHeld ?_
  rotate_left
  · simp only [List.getElem?_toArray, List.getElem?_cons_zero, Option.some.injEq] at ho
    subst ho
    refine ⟨by rfl, fun w hSw => ?_⟩
    (try dsimp only at hSw)
    go_simp
    try with_reducible rfl
  try simp only [Act.put, List.setIfInBounds_toArray, List.set_cons_zero, List.set_cons_succ]
  refine held_take (i := 1) (d := some 15) (v := ?_) (by kernel_rfl) (by kernel_rfl) (by kernel_rfl) (by kernel_rfl) (fun _ _ _ h => h) (fun o ho => ?_) hHeld ?_
  rotate_left
  · simp only [List.getElem?_toArray, List.getElem?_cons_zero, List.getElem?_cons_succ, Option.some.injEq] at ho
    subst ho
    refine ⟨by rfl, fun w hSw => ?_⟩
    (try dsimp only at hSw)
    go_simp
    try with_reducible rfl
  try simp only [Act.put, List.setIfInBounds_toArray, List.set_cons_zero, List.set_cons_succ]
  refine held_take (i := 2) (d := some 16) (v := ?_) (by kernel_rfl) (by kernel_rfl) (by kernel_rfl) (by kernel_rfl) (fun _ _ _ h => h) (fun o ho => ?_) hHeld ?_
  rotate_left
  · simp only [List.getElem?_toArray, List.getElem?_cons_zero, List.getElem?_cons_succ, Option.some.injEq] at ho
    subst ho
    refine ⟨by rfl, fun w hSw => ?_⟩
    (try dsimp only at hSw)
    go_simp
    try with_reducible rfl
  try simp only [Act.put, List.setIfInBounds_toArray, List.set_cons_zero, List.set_cons_succ]
  refine held_take (i := 3) (d := some 17) (v := ?_) (by kernel_rfl) (by kernel_rfl) (by kernel_rfl) (by kernel_rfl) (fun _ _ _ h => h) (fun o ho => ?_) hHeld ?_
  rotate_left
  · simp only [List.getElem?_toArray, List.getElem?_cons_zero, List.getElem?_cons_succ, Option.some.injEq] at ho
    subst ho
    refine ⟨by rfl, fun w hSw => ?_⟩
    (try dsimp only at hSw)
    go_simp
    try with_reducible rfl
  try simp only [Act.put, List.setIfInBounds_toArray, List.set_cons_zero, List.set_cons_succ]
  refine held_take (i := 4) (d := some 18) (v := ?_) (by kernel_rfl) (by kernel_rfl) (by kernel_rfl) (by kernel_rfl) (fun _ _ _ h => h) (fun o ho => ?_) hHeld ?_
  rotate_left
  · simp only [List.getElem?_toArray, List.getElem?_cons_zero, List.getElem?_cons_succ, Option.some.injEq] at ho
    subst ho
    refine ⟨by rfl, fun w hSw => ?_⟩
    (try dsimp only at hSw)
    go_simp
    try with_reducible rfl
  try simp only [Act.put, List.setIfInBounds_toArray, List.set_cons_zero, List.set_cons_succ]
  refine held_take (i := 5) (d := some 19) (v := ?_) (by kernel_rfl) (by kernel_rfl) (by kernel_rfl) (by kernel_rfl) (fun _ _ _ h => h) (fun o ho => ?_) hHeld ?_
  rotate_left
  · simp only [List.getElem?_toArray, List.getElem?_cons_zero, List.getElem?_cons_succ, Option.some.injEq] at ho
    subst ho
    refine ⟨by rfl, fun w hSw => ?_⟩
    (try dsimp only at hSw)
    go_simp
    try with_reducible rfl
  try simp only [Act.put, List.setIfInBounds_toArray, List.set_cons_zero, List.set_cons_succ]
  refine held_take (i := 6) (d := some 20) (v := ?_) (by kernel_rfl) (by kernel_rfl) (by kernel_rfl) (by kernel_rfl) (fun _ _ _ h => h) (fun o ho => ?_) hHeld ?_
  rotate_left
  · simp only [List.getElem?_toArray, List.getElem?_cons_zero, List.getElem?_cons_succ, Option.some.injEq] at ho
    subst ho
    refine ⟨by rfl, fun w hSw => ?_⟩
    (try dsimp only at hSw)
    go_simp
    try with_reducible rfl
  try simp only [Act.put, List.setIfInBounds_toArray, List.set_cons_zero, List.set_cons_succ]
  refine held_take (i := 7) (d := some 21) (v := ?_) (by kernel_rfl) (by kernel_rfl) (by kernel_rfl) (by kernel_rfl) (fun _ _ _ h => h) (fun o ho => ?_) hHeld ?_
  rotate_left
  · simp only [List.getElem?_toArray, List.getElem?_cons_zero, List.getElem?_cons_succ, Option.some.injEq] at ho
    subst ho
    refine ⟨by rfl, fun w hSw => ?_⟩
    (try dsimp only at hSw)
    go_simp
    try with_reducible rfl
  try simp only [Act.put, List.setIfInBounds_toArray, List.set_cons_zero, List.set_cons_succ]
  refine held_take (i := 8) (d := some 22) (v := ?_) (by kernel_rfl) (by kernel_rfl) (by kernel_rfl) (by kernel_rfl) (fun _ _ _ h => h) (fun o ho => ?_) hHeld ?_
  rotate_left
  · simp only [List.getElem?_toArray, List.getElem?_cons_zero, List.getElem?_cons_succ, Option.some.injEq] at ho
    subst ho
    refine ⟨by rfl, fun w hSw => ?_⟩
    (try dsimp only at hSw)
    go_simp
    try with_reducible rfl
  try simp only [Act.put, List.setIfInBounds_toArray, List.set_cons_zero, List.set_cons_succ]
  refine held_take (i := 10) (d := some 24) (v := ?_) (by kernel_rfl) (by kernel_rfl) (by kernel_rfl) (by kernel_rfl) (fun _ _ _ h => h) (fun o ho => ?_) hHeld ?_
  rotate_left
  · simp only [List.getElem?_toArray, List.getElem?_cons_zero, List.getElem?_cons_succ, Option.some.injEq] at ho
    subst ho
    refine ⟨by rfl, fun w hSw => ?_⟩
    (try dsimp only at hSw)
    go_simp
    try with_reducible rfl
  try simp only [Act.put, List.setIfInBounds_toArray, List.set_cons_zero, List.set_cons_succ]
  refine held_take (i := 14) (d := some 28) (v := ?_) (by kernel_rfl) (by kernel_rfl) (by kernel_rfl) (by kernel_rfl) (fun _ _ _ h => h) (fun o ho => ?_) hHeld ?_
  rotate_left
  · simp only [List.getElem?_toArray, List.getElem?_cons_zero, List.getElem?_cons_succ, Option.some.injEq] at ho
    subst ho
    refine ⟨by rfl, fun w hSw => ?_⟩
    (try dsimp only at hSw)
    go_simp
    try with_reducible rfl
  try simp only [Act.put, List.setIfInBounds_toArray, List.set_cons_zero, List.set_cons_succ]
  refine wpAnyH_ready (rs := [9]) (by kernel_rfl) (by simp) ?_
  refine held_step (i := 9) (by kernel_rfl) (fun o ho K' hK => ?_) ?_
  · simp only [List.getElem?_toArray, List.getElem?_cons_zero, List.getElem?_cons_succ, Option.some.injEq] at ho
    subst ho
    go_simp
    go_at_call 112
    refine (names_any _).mono ?_
    rintro e w2 ⟨rfl, hx2⟩
    have hy2 := ((Ext.refl w1).drew).trans hx2
    refine hK.out _ _ ?_ (fun hHeld => ?_)
    · first | exact HS.out _ hy2 | exact HS.out _ ((Ext.refl w1).drew)
    clear hK K'
    try simp only [List.setIfInBounds_toArray, List.set_cons_zero, List.set_cons_succ]
    refine held_take (i := 11) (d := some 25) (v := ?_) (by kernel_rfl) (by kernel_rfl) (by kernel_rfl) (by kernel_rfl) (fun _ _ _ h => h) (fun o ho => ?_) hHeld ?_
    rotate_left
    · simp only [List.getElem?_toArray, List.getElem?_cons_zero, List.getElem?_cons_succ, Option.some.injEq] at ho
      subst ho
      refine ⟨by rfl, fun w hSw => ?_⟩
      (try dsimp only at hSw)
      go_simp
      try simp only [HNX]
      try rfl
    try simp only [Act.put, List.setIfInBounds_toArray, List.set_cons_zero, List.set_cons_succ]
    refine held_take (i := 12) (d := some 26) (v := ?_) (by kernel_rfl) (by kernel_rfl) (by kernel_rfl) (by kernel_rfl) (fun _ _ _ h => h) (fun o ho => ?_) hHeld ?_
    rotate_left
    · simp only [List.getElem?_toArray, List.getElem?_cons_zero, List.getElem?_cons_succ, Option.some.injEq] at ho
      subst ho
      refine ⟨by rfl, fun w hSw => ?_⟩
      (try dsimp only at hSw)
      go_simp
      try with_reducible rfl
    try simp only [Act.put, List.setIfInBounds_toArray, List.set_cons_zero, List.set_cons_succ]
    refine held_take (i := 13) (d := some 27) (v := ?_) (by kernel_rfl) (by kernel_rfl) (by kernel_rfl) (by kernel_rfl) (fun _ _ _ h => h) (fun o ho => ?_) hHeld ?_
    rotate_left
    · simp only [List.getElem?_toArray, List.getElem?_cons_zero, List.getElem?_cons_succ, Option.some.injEq] at ho
      subst ho
      refine ⟨by rfl, fun w hSw => ?_⟩
      (try dsimp only at hSw)
      go_simp
      try with_reducible rfl
    try simp only [Act.put, List.setIfInBounds_toArray, List.set_cons_zero, List.set_cons_succ]
    refine wpAnyH_ready (rs := [15]) (by kernel_rfl) (by simp) ?_
    refine held_step (i := 15) (by kernel_rfl) (fun o ho K' hK => ?_) ?_
    · simp only [List.getElem?_toArray, List.getElem?_cons_zero, List.getElem?_cons_succ, Option.some.injEq] at ho
      subst ho
      go_simp
      go_at_call 90
      refine (HSU.out _ _).mono ?_
      rintro e w9 ⟨rfl, rfl⟩
      refine hK.out _ _ ?_ (fun hHeld => ?_)
      · first | exact HS.out _ hy2 | exact HS.out _ ((Ext.refl w1).drew)
      clear hK K'
      try simp only [List.setIfInBounds_toArray, List.set_cons_zero, List.set_cons_succ]
      refine wpAnyH_done (by kernel_rfl) ?_ _
      try simp only [List.setIfInBounds_toArray, List.set_cons_zero, List.set_cons_succ]
      clear HSU HSN z0 HS HNX
      have hw9 : Ext w w9 := hx1.trans hy2
      have HX2 := Lib.hid hw9
      have HST2 := Lib.hid (HST.out.ext hy2)
      clear HST hx1 hx2 hy2
      go_wp2
      go_loopw [8, 33] (fun ov i wr => ∃ j : Nat, j ≤ M ∧ i = .int .i64 j ∧ wr.ownsRow w9.heap.size 3 1 ov j (((toldN s).take j).map (.int .i64)) ∧ Ext w9 wr ∧ Hid (∀ x, x ∈ ((splitL 32 s).drop 1).take j → numOk x = true)) (fun _ i _ => M - (intOf i).toNat)
      case atStart => exact ⟨0, Nat.zero_le _, rfl, World.ownsRow_nil _ _ _ _, Ext.refl _, fun x hx => by simp at hx⟩
      case round =>
        obtain ⟨j, hj, rfl, hown, hx, hal⟩ := hrel
        by_cases hlt : j < M
        · obtain ⟨l, hl⟩ : ∃ l, (splitL 32 s)[1 + j]? = some l := ⟨_, List.getElem?_eq_getElem (by rw [HL.out]; omega)⟩
          have z1 := hx.cell (strs_cell HST2.out hl)
          have x1 : decide ((j : Int) < (M : Int)) = true := by simpa using hlt
          have x2 : (j : Int) < (M : Int) := by omega
          have x3 : (0 : Int) ≤ (j : Int) := by omega
          have hdl : ((splitL 32 s).drop 1)[j]? = some l := by rw [List.getElem?_drop]; exact hl
          by_cases hok : numOk l = true
          · have HOK := Lib.hid hok
            have HAX : Hid (∀ x, x ∈ ((splitL 32 s).drop 1).take (j + 1) → numOk x = true) := fun x hx => by
              rw [List.take_add_one, hdl, List.mem_append] at hx
              rcases hx with hx | hx
              · exact hal.out x hx
              · rw [show x = l by simpa using hx]; exact hok
            clear hok
            have hns : (toldN s)[j]? = some (valT l) := by unfold toldN; rw [List.getElem?_map, hdl]; rfl
            have HTK : Hid ((toldN s).take (j + 1) = (toldN s).take j ++ [valT l]) := by unfold Hid; rw [List.take_add_one, hns]; rfl
            have hs1 : j + 1 ≤ maxLen ∧ (j + 1) * 8 ≤ 140737488355328 := by unfold maxLen; omega
            have HS1 := Lib.hid hs1
            have HO := Lib.hid hown
            have HXR := Lib.hid hx
            clear hown hs1 hns
            go_wp2_with (first
              | (go_at_call 118; refine (HNY.out _ _ (HX2.out.trans HXR.out) HOK.out).mono ?_; rintro e w3 ⟨rfl, hx3⟩; have hy3 := HXR.out.trans hx3; have hz3 := hy3.size)
              | (at_builtin; refine wpList_push_at E_ints rfl _ _ rfl w9.heap.size rfl (owns_ext HO.out hx3) rfl rfl rfl (by simp [Value.oneCell']) ?_ HS1.out.1 HS1.out.2 hz3; intro g cap w4 hown4 hext4 hg4 hloc4; have hx4 := hext4 _ hy3 (Nat.le_refl _); have HO4 := Lib.hid hown4; clear hown4 hext4 hg4 hloc4))
            refine ⟨⟨j + 1, by omega, by go_num, by rw [HTK.out, List.map_append]; exact HO4.out, hx4, HAX.out⟩, by simp [intOf]; omega⟩
          · have HOK := Lib.hid (show numOk l = false by simpa using hok)
            have HXR := Lib.hid hx
            clear hok hown
            go_wp2_with (go_at_call 118; refine (HNN.out _ _ (HX2.out.trans HXR.out) HOK.out).mono ?_; rintro e w3 ⟨why, rfl, hx3⟩)
            exact ⟨rfl, why, rfl, (HX2.out.trans HXR.out).trans hx3⟩
        · have hje : j = M := by omega
          exfalso
          refine HBAD.out (fun x hx => hal.out x ?_)
          rw [List.take_of_length_le (by rw [List.length_drop, HL.out]; omega)]
          exact hx
    exact AllReadyH.nil
  exact AllReadyH.nil
theorem told_ok (s : List UInt8) (kind : Int) (word : List UInt8) (M : Nat) (w : World) (ht : TabOk w) (hm : MaxOk w) (hs : s.length ≤ 1000) (hM : 2 ≤ M ∧ M ≤ 6) (hnm : NameAt kind word) (h : toldOk word M s = true) : Calls Tryz.prog 89 #[strV s, .int .i64 kind, .int .i64 M] w fun e w' => ∃ v1, e = .returned v1 ∧ Ext w w' ∧ w'.ownsRow w.heap.size 3 1 v1 (toldN s).length ((toldN s).map (.int .i64)) := by
  unfold toldOk at h
  simp only [Bool.and_eq_true, decide_eq_true_eq, List.all_eq_true] at h
  exact told_yes s kind word M w ht hm hs hM hnm h.1.1 h.1.2 h.2
theorem told_no (s : List UInt8) (kind : Int) (word : List UInt8) (M : Nat) (w : World) (ht : TabOk w) (hm : MaxOk w) (hs : s.length ≤ 1000) (hM : 2 ≤ M ∧ M ≤ 6) (hnm : NameAt kind word) (h : toldOk word M s = false) : Calls Tryz.prog 89 #[strV s, .int .i64 kind, .int .i64 M] w (StrangeP w) := by
  by_cases h1 : (splitL 32 s).length = M + 1
  · by_cases h2 : (splitL 32 s).headD [] = word
    · refine told_num s kind word M w ht hm hs hM hnm h1 h2 (fun h3 => ?_)
      unfold toldOk at h
      rw [decide_eq_true h1, decide_eq_true h2, List.all_eq_true.2 h3] at h
      cases h
    · exact told_word s kind word M w ht hm hs hM hnm h1 h2
  · exact told_len s kind word M w ht hm hs hM hnm h1
end Go.Proofs.YtbeophjdiddomaaGreatDoor
