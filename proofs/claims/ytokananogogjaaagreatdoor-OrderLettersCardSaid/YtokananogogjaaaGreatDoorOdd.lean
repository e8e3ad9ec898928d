/- Odd. -/
import Derived.Test.YtokananogogjaaaGreatDoorOlt
import Derived.Test.YtokananogogjaaaGreatDoorObt
import Derived.Test.YtokananogogjaaaGreatDoorRound
import Derived.Test.YtokananogogjaaaGreatDoorOre
namespace Go.Proofs.YtokananogogjaaaGreatDoor
open Go.RowKit
attribute [local go_sem] Oper.semAt_some
def wrongsB (b : Book) (x : Buyer) : List (List Int) := (readsB b x).map fun r => wrongB b x r.2
def oddB (b : Book) (x : Buyer) : List Int := (bestOf ltO (wrongsB b x)).getD []
theorem bits_some : ∀ s : Nat, 1 ≤ s → s < 8 → s.testBit 0 = true ∨ s.testBit 1 = true ∨ s.testBit 2 = true := by
 intro s h1 h2
 rcases (by omega : s = 1 ∨ s = 2 ∨ s = 3 ∨ s = 4 ∨ s = 5 ∨ s = 6 ∨ s = 7) with rfl | rfl | rfl | rfl | rfl | rfl | rfl <;> decide
theorem buyer_bit {b : Book} (hB : BookB b) {x : Buyer} (h : isBuyerB b x = true) : ∃ e : Nat, (e : Int) < b.editions ∧ x.editions.toNat.testBit e = true := by
 unfold isBuyerB at h
 simp only [Bool.and_eq_true] at h
 have h1 := inB_iff.1 h.1.1
 have e3 := hB.e3
 have e1 := hB.e1
 obtain ⟨s, hs⟩ : ∃ s : Nat, x.editions = s := ⟨x.editions.toNat, by omega⟩
 have h3 : (s : Int) < 2 ^ b.editions.toNat := by omega
 have h2 : (2 : Int) ^ b.editions.toNat ≤ 8 := by
  rcases (by omega : b.editions.toNat = 1 ∨ b.editions.toNat = 2 ∨ b.editions.toNat = 3) with h | h | h <;> rw [h] <;> decide
 have h4 : s < 2 ^ b.editions.toNat := by
  have : ((2 ^ b.editions.toNat : Nat) : Int) = (2 : Int) ^ b.editions.toNat := by simp
  omega
 rw [hs, Int.toNat_natCast]
 have key : ∀ e, s.testBit e = true → (e : Int) < b.editions := fun e he => by
  rcases Nat.lt_or_ge e b.editions.toNat with h5 | h5
  ·omega
  ·have h6 : s < 2 ^ e := Nat.lt_of_lt_of_le h4 (Nat.pow_le_pow_right (by decide) h5)
   rw [Nat.testBit_lt_two_pow h6] at he; cases he
 rcases bits_some s (by omega) (by omega) with h | h | h
 ·exact ⟨0, key 0 h, h⟩
 ·exact ⟨1, key 1 h, h⟩
 ·exact ⟨2, key 2 h, h⟩
theorem reads_ne {b : Book} (hB : BookB b) {x : Buyer} (h : isBuyerB b x = true) (hp : pageB b 0 ≠ []) : readsB b x ≠ [] := by
 obtain ⟨e, he, hb⟩ := buyer_bit hB h
 have h1 := page_ne hp he
 cases hq : pageB b e with
 | nil => exact absurd hq h1
 | cons l t =>
  have h2 := reads_at (b := b) (s := x.editions.toNat) (e := e) (ed := b.editions.toNat) (k := 0) (l := l) (by omega) hb (by rw [hq]; rfl)
  intro h3
  unfold readsB at h3
  rw [h3] at h2
  simp at h2
theorem best_map {α : Type} {lt : List Int → List Int → Bool} (f : α → List Int) {l : List α} {x : α} (h : bestOf (fun a b => lt (f a) (f b)) l = some x) : bestOf lt (l.map f) = some (f x) := by
 cases l with
 | nil => simp [bestOf] at h
 | cons a l =>
  unfold bestOf at h ⊢
  simp only [List.map_cons, Option.some.injEq] at h ⊢
  rw [← h]
  clear h
  induction l generalizing a with
  | nil => rfl
  | cons c l ih =>
   simp only [List.map_cons, List.foldl_cons]
   rw [← ih]
   congr 1
   split <;> rfl
def OddRes (b : Book) (x : Buyer) (w : World) (e : Ending) (w' : World) : Prop :=
 Ext w w' ∧ ((askErr b (isBuyerB b x) ≠ 0 ∧ e = .returned (.tuple #[.slice none 0 0, .int .i64 (askErr b (isBuyerB b x))])) ∨ (askErr b (isBuyerB b x) = 0 ∧ ∃ u, e = .returned (.tuple #[u, .int .i64 0]) ∧ IntsAt w' u (oddB b x)))
/-- The round's state: the lists of letters that are not true, so far. -/
structure OddI (b : Book) (x : Buyer) (w1 : World) (k : Nat) (ov : Value) (O : Nat → Prop) (W : World) (vs : List (Value × List Int)) : Prop where
 col : ColI w1 w1.heap.size 42 1 vs.length (vs.map Prod.fst) ov O W
 nn : ov = .slice none 0 0 ∨ 0 < vs.length
 rs : vs.map Prod.snd = ((readsB b x).take k).map fun r => wrongB b x r.2
 ms : ∀ q, q ∈ vs → IntsAt W q.1 q.2 ∧ ∀ a n c, q.1 = .slice (some a) n c → ¬ O a.block ∧ a.block < W.heap.size
theorem ints_quiet {n : Nat} {A B : World} {v : Value} {l : List Int} (h : IntsAt A v l) (q : Quiet n A B) : IntsAt B v l :=
 q.row h (fun u hu => by obtain ⟨y, _, rfl⟩ := List.mem_map.1 hu; exact NB.int _ _)
theorem fst_nb {W : World} {vs : List (Value × List Int)} (h : ∀ q, q ∈ vs → IntsAt W q.1 q.2) : ∀ u, u ∈ vs.map Prod.fst → NB u := by
 intro u hu
 obtain ⟨q, hq, rfl⟩ := List.mem_map.1 hu
 obtain ⟨a, c, hv, _⟩ := (h q hq).open
 rw [hv]; exact NB.slice _ _ _
theorem OddI.quiet {b : Book} {x : Buyer} {w1 : World} {k : Nat} {ov : Value} {O : Nat → Prop} {A B : World} {vs : List (Value × List Int)} (h : OddI b x w1 k ov O A vs) (q : Quiet w1.heap.size A B) : OddI b x w1 k ov O B vs :=
 ⟨h.col.quiet q (Nat.le_refl _) (fst_nb fun q hq => (h.ms q hq).1) (h.nn.elim (fun e => .inr (.inl e)) (fun e => .inr (.inr ⟨e, by decide⟩))), h.nn, h.rs, fun z hz => ⟨ints_quiet (h.ms z hz).1 q, fun a n c he => ⟨((h.ms z hz).2 a n c he).1, Nat.lt_of_lt_of_le ((h.ms z hz).2 a n c he).2 q.size⟩⟩⟩
theorem OddI.push {b : Book} {x : Buyer} {w1 : World} {k : Nat} {ov : Value} {O : Nat → Prop} {W w2 w5 : World} {vs : List (Value × List Int)} {r : Read1} {u : Value} {g cap : Nat} {e' : TypeId} (h : OddI b x w1 k ov O W vs) (hr : (readsB b x)[k]? = some r) (q : Ext W w2)
  (hu : IntsAt w2 u (wrongB b x r.2)) (hu2 : ∀ a n c, u = .slice (some a) n c → W.heap.size ≤ a.block ∧ a.block < w2.heap.size)
  (hown5 : w5.ownsRow (w1.heap.size + 1) 42 1 (.slice (some ⟨g, 0, none⟩) (vs.length + 1) cap) (vs.length + 1) (vs.map Prod.fst ++ [u])) (hg5 : (w2.alloc (.cells #[u] e')).grownBy w5 ov.ownBlock) (hloc : ov.ownBlock = some g ∨ g = w2.heap.size + 1) :
  (w5.cell? ⟨w1.heap.size, 0, none⟩ = some ov ∧ w5.frozen? ⟨w1.heap.size, 0, none⟩ = false) ∧ Touch O W (w5.setCell ⟨w1.heap.size, 0, none⟩ (.slice (some ⟨g, 0, none⟩) (vs.length + 1) cap)) ∧
  (∀ j, j = w1.heap.size ∨ j = g → (O j ∨ W.heap.size ≤ j) ∧ j < (w5.setCell ⟨w1.heap.size, 0, none⟩ (.slice (some ⟨g, 0, none⟩) (vs.length + 1) cap)).heap.size) ∧
  OddI b x w1 (k + 1) (.slice (some ⟨g, 0, none⟩) (vs.length + 1) cap) (fun j => j = w1.heap.size ∨ j = g) (w5.setCell ⟨w1.heap.size, 0, none⟩ (.slice (some ⟨g, 0, none⟩) (vs.length + 1) cap)) (vs ++ [(u, wrongB b x r.2)]) := by
 obtain ⟨a1, a2, a3, a4⟩ := h.col.push (Nat.le_refl _) q hown5 hg5 hloc
 obtain ⟨_, b2, _, _⟩ := (h.col.ext' q).push (Nat.le_refl _) (Ext.refl _) hown5 hg5 hloc
 have hT := a2.size
 have hob : ∀ j, ov.ownBlock = some j → j < W.heap.size := fun j hj => (World.ownsRow.lt h.col.own j hj).2
 have hcl := lt_of_cell h.col.o
 refine ⟨a1, a2, a3, ?_, .inr (by simp), ?_, fun z hz => ?_⟩
 ·rw [List.length_append, List.map_append]; exact a4
 ·rw [List.map_append, h.rs, List.take_add_one, hr, Option.toList_some, List.map_append]; rfl
 ·rcases List.mem_append.1 hz with hz | hz
  ·obtain ⟨z1, z2⟩ := h.ms z hz
   refine ⟨ints_touch z1 a2 (fun a n c he => (z2 a n c he).1), fun a n c he => ?_⟩
   obtain ⟨z3, z4⟩ := z2 a n c he
   refine ⟨fun hj => ?_, by omega⟩
   rcases hj with hj | hj
   ·exact z3 ((h.col.low _).2 (.inl hj))
   ·rcases hloc with hl | hl
    ·exact z3 ((h.col.low _).2 (.inr (by rw [hj]; exact hl)))
    ·have := q.size; omega
  ·rw [List.mem_singleton] at hz
   subst hz
   refine ⟨ints_touch hu b2 (fun a n c he hO => ?_), fun a n c he => ?_⟩
   ·obtain ⟨z3, z4⟩ := hu2 a n c he
    rcases (h.col.low _).1 hO with hj | hj
    ·simp only at hcl; omega
    ·have := hob _ hj; omega
   ·obtain ⟨z3, z4⟩ := hu2 a n c he
    refine ⟨fun hj => ?_, by have := b2.size; omega⟩
    rcases hj with hj | hj
    ·simp only at hcl; omega
    ·rcases hloc with hl | hl
     ·have := hob _ hl; omega
     ·omega
set_option maxRecDepth 100000 in
set_option maxHeartbeats 16000000 in
theorem Odd_any (v xv : Value) (b : Book) (x : Buyer) (w : World) (hB : BookB b) (hb : BookAt w v b) (hx : BuyerAt w xv x) :
 Calls Tryz.prog 21 #[v, xv] w (OddRes b x w) := by
 have HAS := Lib.hid (fun W1 (h : Ext w W1) => asked5_any v b (isBuyerB b x) W1 (hb.ext h))
 have HBU0 := Lib.hid (fun W1 (h : Ext w W1) => isBuyer_any v xv b x W1 hB (hb.ext h) (hx.ext h))
 have HXB := Lib.hid (fun W1 (h : Ext w W1) => hx.ext h)
 have HBB := Lib.hid (fun W1 (h : Ext w W1) => hb.ext h)
 obtain ⟨ga, gc, ea, ec, rfl, hgl, hel⟩ := hb.open
 obtain ⟨la, lc, rfl, hl1, hl2, hlr⟩ := hx.open
 obtain ⟨W, hW⟩ : ∃ W, W = (w.alloc (bookBox (.slice ga b.goods.length gc) b (.slice ea b.entries.length ec))).alloc (.cells #[.int .i64 x.editions, .slice la x.letters.length lc] 28) := ⟨_, rfl⟩
 have hx0 : Ext w W := by rw [hW]; exact ((Ext.refl w).alloc _).alloc _
 have HX0 := Lib.hid hx0
 have HBW := Lib.hid (hb.ext hx0)
 have HBU := Lib.hid (fun W1 (h : Ext W W1) => HBU0.out W1 (hx0.trans h))
 have c0 : W.cell? ⟨w.heap.size, 0, none⟩ = some (.slice ga b.goods.length gc) := by rw [hW]; go_simp
 have c1 : W.cell? ⟨w.heap.size, 1, none⟩ = some (.int .i64 b.editions) := by rw [hW]; go_simp
 have c2 : W.cell? ⟨w.heap.size, 2, none⟩ = some (.int .i64 b.moves) := by rw [hW]; go_simp
 have c3 : W.cell? ⟨w.heap.size, 3, none⟩ = some (.slice ea b.entries.length ec) := by rw [hW]; go_simp
 have c4 : W.cell? ⟨w.heap.size + 1, 0, none⟩ = some (.int .i64 x.editions) := by rw [hW]; go_simp
 have c5 : W.cell? ⟨w.heap.size + 1, 1, none⟩ = some (.slice la x.letters.length lc) := by rw [hW]; go_simp
 have HF := Lib.hid (fun W1 (h : Ext W W1) => (⟨h.cell c0, h.cell c1, h.cell c2, h.cell c3, h.cell c4, h.cell c5⟩ : _ ∧ _ ∧ _ ∧ _ ∧ _ ∧ _))
 have HB := Lib.hid hB
 clear hb c0 c1 c2 c3 c4 c5 hx0 hgl hel hx hlr hB HBU0
 refine (callsIn_wide (n := 0)).1 ?_
 refine callsIn_of_wp_marks Tryz.func21 rfl trivial ?_ rfl
 simp only [Tryz.ntmps21, List.size_toArray, List.length_cons, List.length_nil, Nat.reduceAdd, Nat.reduceSub, Array.replicate_succ, Array.replicate_zero, List.push_toArray, List.append_toArray, List.nil_append, List.cons_append]
 refine (wpIn_wide (n := 0)).2 ?_
 go_upto_region 1 with fail
 unfold bookBox at hW
 rw [← hW]
 clear hW
 refine Code.wp_mono (Q := fun ex a' w' => match ex with | .normal => ∃ (B : Nat) (u8 u9 u10 u11 u12 u13 u14 u15 u16 u17 u18 u19 u20 u21 u22 u23 u24 u25 u26 u27 u28 u29 u30 u31 u32 u33 u34 u35 u36 u37 u38 u39 : Value), a' = { tmps := #[(.agg #[.slice ga b.goods.length gc, .int .i64 b.editions, .int .i64 b.moves, .slice ea b.entries.length ec]), (.agg #[.int .i64 x.editions, .slice la x.letters.length lc]), .pointer (some ⟨w.heap.size, 0, none⟩), .pointer (some ⟨w.heap.size + 1, 0, none⟩), .slice none 0 0, .int .i64 0, .pointer (some ⟨B, 0, none⟩), .int .i64 (askErr b (isBuyerB b x)), u8, u9, u10, u11, u12, u13, u14, u15, u16, u17, u18, u19, u20, u21, u22, u23, u24, u25, u26, u27, u28, u29, u30, u31, u32, u33, u34, u35, u36, u37, u38, u39], defers := [] } ∧ OpenIn b W B (askErr b (isBuyerB b x)) w' | _ => False) (fun ex a' w' h => ?_) ?_
 rotate_left
 ·skip
  refine wp_region_held_drew (S := (fun W => W.cell? ⟨w.heap.size, 0, none⟩ = some (.slice ga b.goods.length gc) ∧ W.cell? ⟨w.heap.size, 1, none⟩ = some (.int .i64 b.editions) ∧ W.cell? ⟨w.heap.size, 2, none⟩ = some (.int .i64 b.moves) ∧ W.cell? ⟨w.heap.size, 3, none⟩ = some (.slice ea b.entries.length ec) ∧ W.cell? ⟨w.heap.size + 1, 0, none⟩ = some (.int .i64 x.editions) ∧ W.cell? ⟨w.heap.size + 1, 1, none⟩ = some (.slice la x.letters.length lc))) (by kernel_rfl) ?_ (fun hHeld => ?_)
  ·exact HF.out _ (Ext.refl W).drew
  refine hTk (i := 0) (d := some 13) (v := ?_) (fun o ho => ?_) hHeld ?_
  rotate_left
  ·simp only [zA, zB, zD] at ho
   subst ho
   refine ⟨by rfl, fun w hSw => ?_⟩
   (try dsimp only at hSw)
   go_simp
   try with_reducible rfl
  try simp only [Act.put, yA, yB, yC]
  refine hTk (i := 1) (d := some 14) (v := ?_) (fun o ho => ?_) hHeld ?_
  rotate_left
  ·simp only [zA, zB, zC, zD] at ho
   subst ho
   refine ⟨by rfl, fun w hSw => ?_⟩
   (try dsimp only at hSw)
   go_simp
   try with_reducible rfl
  try simp only [Act.put, yA, yB, yC]
  refine hTk (i := 2) (d := some 15) (v := ?_) (fun o ho => ?_) hHeld ?_
  rotate_left
  ·simp only [zA, zB, zC, zD] at ho
   subst ho
   refine ⟨by rfl, fun w hSw => ?_⟩
   (try dsimp only at hSw)
   go_simp
   try with_reducible rfl
  try simp only [Act.put, yA, yB, yC]
  refine wpAnyH_ready (rs := [3, 8]) (by kernel_rfl) (by simp) ?_
  refine held_step (i := 3) (by kernel_rfl) (fun o ho K' hK => ?_) ?_
  ·simp only [zA, zB, zC, zD] at ho
   subst ho
   go_simp
   go_at_call 48
   refine (HBU.out _ eC).mono ?_
   rintro r w3 ⟨rfl, hz⟩
   have hyw3 : Ext W w3 := Ext.trans eC hz
   have hsw3 := hyw3.size
   clear hz
   try go_simp
   refine hK.out _ _ ?_ (fun hHeld => ?_)
   ·exact HF.out _ eS
   clear hK K'
   try simp only [yA, yB, yC]
   refine wpAnyH_ready (rs := [4, 8]) (by kernel_rfl) (by simp) ?_
   refine held_step (i := 4) (by kernel_rfl) (fun o ho K' hK => ?_) ?_
   ·simp only [zA, zB, zC, zD] at ho
    subst ho
    go_simp
    go_at_call 45
    refine (HAS.out _ (HX0.out.trans eC)).mono ?_
    rintro r w4 ⟨a1, n1, c1, x, y, a2, n2, c2, a3, n3, c3, rfl, hz, hop⟩
    have hyw4 : Ext W w4 := Ext.trans eC hz
    have hsw4 := hyw4.size
    try go_simp
    refine hK.out _ _ ?_ (fun hHeld => ?_)
    ·exact HF.out _ eS
    clear hK K'
    try simp only [yA, yB, yC]
    refine hTk (i := 5) (d := some 12) (v := ?_) (fun o ho => ?_) hHeld ?_
    rotate_left
    ·simp only [zA, zB, zC, zD] at ho
     subst ho
     refine ⟨by rfl, fun w hSw => ?_⟩
     (try dsimp only at hSw)
     go_simp
     try with_reducible rfl
    try simp only [Act.put, yA, yB, yC]
    refine hTk (i := 6) (d := some 18) (v := ?_) (fun o ho => ?_) hHeld ?_
    rotate_left
    ·simp only [zA, zB, zC, zD] at ho
     subst ho
     refine ⟨by rfl, fun w hSw => ?_⟩
     (try dsimp only at hSw)
     go_simp
     try with_reducible rfl
    try simp only [Act.put, yA, yB, yC]
    refine hTk (i := 7) (d := some 19) (v := ?_) (fun o ho => ?_) hHeld ?_
    rotate_left
    ·simp only [zA, zB, zC, zD] at ho
     subst ho
     refine ⟨by rfl, fun w hSw => ?_⟩
     (try dsimp only at hSw)
     go_simp
     try with_reducible rfl
    try simp only [Act.put, yA, yB, yC]
    refine wpAnyH_ready (rs := [8]) (by kernel_rfl) (by simp) ?_
    refine held_step (i := 8) (by kernel_rfl) (fun o ho K' hK => ?_) ?_
    ·simp only [zA, zB, zC, zD] at ho
     subst ho
     go_simp
     refine hK.out _ _ ?_ (fun hHeld => ?_)
     ·exact HF.out _ eS
     clear hK K'
     try simp only [yA, yB, yC]
     refine wpAnyH_ready (rs := [9]) (by kernel_rfl) (by simp) ?_
     refine held_step (i := 9) (by kernel_rfl) (fun o ho K' hK => ?_) ?_
     ·simp only [zA, zB, zC, zD] at ho
      subst ho
      go_simp
      refine hK.out _ _ ?_ (fun hHeld => ?_)
      ·exact HF.out _ eS
      clear hK K'
      try simp only [yA, yB, yC]
      refine wpAnyH_ready (rs := [10]) (by kernel_rfl) (by simp) ?_
      refine held_step (i := 10) (by kernel_rfl) (fun o ho K' hK => ?_) ?_
      ·simp only [zA, zB, zC, zD] at ho
       subst ho
       go_simp
       refine hK.out _ _ ?_ (fun hHeld => ?_)
       ·exact HF.out _ eS
       clear hK K'
       try simp only [yA, yB, yC]
       refine wpAnyH_done (by kernel_rfl) ?_ _
       clear hHeld
       refine ⟨_, _, _, _, _, _, _, _, _, _, _, _, _, _, _, _, _, _, _, _, _, _, _, _, _, _, _, _, _, _, _, _, _, rfl, ?_⟩
       exact openIn_after HBW.out hyw4 hop
      exact AllReadyH.nil
     exact AllReadyH.nil
    exact AllReadyH.nil
   refine held_step (i := 8) (by kernel_rfl) (fun o ho K' hK => ?_) ?_
   ·simp only [zA, zB, zC, zD] at ho
    subst ho
    go_simp
    refine hK.out _ _ ?_ (fun hHeld => ?_)
    ·exact HF.out _ eS
    clear hK K'
    try simp only [yA, yB, yC]
    refine wpAnyH_ready (rs := [4]) (by kernel_rfl) (by simp) ?_
    refine held_step (i := 4) (by kernel_rfl) (fun o ho K' hK => ?_) ?_
    ·simp only [zA, zB, zC, zD] at ho
     subst ho
     go_simp
     go_at_call 45
     refine (HAS.out _ (HX0.out.trans eC)).mono ?_
     rintro r w4 ⟨a1, n1, c1, x, y, a2, n2, c2, a3, n3, c3, rfl, hz, hop⟩
     have hyw4 : Ext W w4 := Ext.trans eC hz
     have hsw4 := hyw4.size
     have hzb : w4.heap[w3.heap.size]? = some (.cells #[.slice none 0 0, .int .i64 0, .int .i64 0, .slice none 0 0, .slice none 0 0] 95) := (by first | exact ext_new hz | exact ext_newd hz)
     obtain ⟨⟨y0, y1, y2, y3, y4⟩, x0, x1, x2, x3, x4⟩ := open_cells hzb
     try go_simp
     refine hK.out _ _ ?_ (fun hHeld => ?_)
     ·exact HF.out _ eS
     clear hK K'
     try simp only [yA, yB, yC]
     refine hTk (i := 5) (d := some 12) (v := ?_) (fun o ho => ?_) hHeld ?_
     rotate_left
     ·simp only [zA, zB, zC, zD] at ho
      subst ho
      refine ⟨by rfl, fun w hSw => ?_⟩
      (try dsimp only at hSw)
      go_simp
      try with_reducible rfl
     try simp only [Act.put, yA, yB, yC]
     refine hTk (i := 6) (d := some 18) (v := ?_) (fun o ho => ?_) hHeld ?_
     rotate_left
     ·simp only [zA, zB, zC, zD] at ho
      subst ho
      refine ⟨by rfl, fun w hSw => ?_⟩
      (try dsimp only at hSw)
      go_simp
      try with_reducible rfl
     try simp only [Act.put, yA, yB, yC]
     refine hTk (i := 7) (d := some 19) (v := ?_) (fun o ho => ?_) hHeld ?_
     rotate_left
     ·simp only [zA, zB, zC, zD] at ho
      subst ho
      refine ⟨by rfl, fun w hSw => ?_⟩
      (try dsimp only at hSw)
      go_simp
      try with_reducible rfl
     try simp only [Act.put, yA, yB, yC]
     refine wpAnyH_ready (rs := [9]) (by kernel_rfl) (by simp) ?_
     refine held_step (i := 9) (by kernel_rfl) (fun o ho K' hK => ?_) ?_
     ·simp only [zA, zB, zC, zD] at ho
      subst ho
      go_simp
      refine hK.out _ _ ?_ (fun hHeld => ?_)
      ·exact HF.out _ eS
      clear hK K'
      try simp only [yA, yB, yC]
      refine wpAnyH_ready (rs := [10]) (by kernel_rfl) (by simp) ?_
      refine held_step (i := 10) (by kernel_rfl) (fun o ho K' hK => ?_) ?_
      ·simp only [zA, zB, zC, zD] at ho
       subst ho
       go_simp
       refine hK.out _ _ ?_ (fun hHeld => ?_)
       ·exact HF.out _ eS
       clear hK K'
       try simp only [yA, yB, yC]
       refine wpAnyH_done (by kernel_rfl) ?_ _
       clear hHeld
       refine ⟨_, _, _, _, _, _, _, _, _, _, _, _, _, _, _, _, _, _, _, _, _, _, _, _, _, _, _, _, _, _, _, _, _, rfl, ?_⟩
       exact openIn_before HBW.out hyw4 hzb (by omega) (by first | (simp; done) | (simp; omega) | (simp only [World.size_alloc, World.heap_drew]; omega) | (have := (Array.getElem?_eq_some_iff.1 hzc).1; omega)) hop
      exact AllReadyH.nil
     exact AllReadyH.nil
    exact AllReadyH.nil
   exact AllReadyH.nil
  refine held_step (i := 8) (by kernel_rfl) (fun o ho K' hK => ?_) ?_
  ·simp only [zA, zB, zC, zD] at ho
   subst ho
   go_simp
   refine hK.out _ _ ?_ (fun hHeld => ?_)
   ·exact HF.out _ eS
   clear hK K'
   try simp only [yA, yB, yC]
   refine wpAnyH_ready (rs := [3]) (by kernel_rfl) (by simp) ?_
   refine held_step (i := 3) (by kernel_rfl) (fun o ho K' hK => ?_) ?_
   ·simp only [zA, zB, zC, zD] at ho
    subst ho
    go_simp
    go_at_call 48
    refine (HBU.out _ eC).mono ?_
    rintro r w3 ⟨rfl, hz⟩
    have hyw3 : Ext W w3 := Ext.trans eC hz
    have hsw3 := hyw3.size
    have hzb : w3.heap[W.heap.size]? = some (.cells #[.slice none 0 0, .int .i64 0, .int .i64 0, .slice none 0 0, .slice none 0 0] 95) := (by first | exact ext_new hz | exact ext_newd hz)
    clear hz
    try go_simp
    refine hK.out _ _ ?_ (fun hHeld => ?_)
    ·exact HF.out _ eS
    clear hK K'
    try simp only [yA, yB, yC]
    refine wpAnyH_ready (rs := [4]) (by kernel_rfl) (by simp) ?_
    refine held_step (i := 4) (by kernel_rfl) (fun o ho K' hK => ?_) ?_
    ·simp only [zA, zB, zC, zD] at ho
     subst ho
     go_simp
     go_at_call 45
     refine (HAS.out _ (HX0.out.trans eC)).mono ?_
     rintro r w4 ⟨a1, n1, c1, x, y, a2, n2, c2, a3, n3, c3, rfl, hz, hop⟩
     have hyw4 : Ext W w4 := Ext.trans eC hz
     have hsw4 := hyw4.size
     have hzc := hzb
     have hzb : w4.heap[W.heap.size]? = some (.cells #[.slice none 0 0, .int .i64 0, .int .i64 0, .slice none 0 0, .slice none 0 0] 95) := ext_block hz hzb
     obtain ⟨⟨y0, y1, y2, y3, y4⟩, x0, x1, x2, x3, x4⟩ := open_cells hzb
     try go_simp
     refine hK.out _ _ ?_ (fun hHeld => ?_)
     ·exact HF.out _ eS
     clear hK K'
     try simp only [yA, yB, yC]
     refine hTk (i := 5) (d := some 12) (v := ?_) (fun o ho => ?_) hHeld ?_
     rotate_left
     ·simp only [zA, zB, zC, zD] at ho
      subst ho
      refine ⟨by rfl, fun w hSw => ?_⟩
      (try dsimp only at hSw)
      go_simp
      try with_reducible rfl
     try simp only [Act.put, yA, yB, yC]
     refine hTk (i := 6) (d := some 18) (v := ?_) (fun o ho => ?_) hHeld ?_
     rotate_left
     ·simp only [zA, zB, zC, zD] at ho
      subst ho
      refine ⟨by rfl, fun w hSw => ?_⟩
      (try dsimp only at hSw)
      go_simp
      try with_reducible rfl
     try simp only [Act.put, yA, yB, yC]
     refine hTk (i := 7) (d := some 19) (v := ?_) (fun o ho => ?_) hHeld ?_
     rotate_left
     ·simp only [zA, zB, zC, zD] at ho
      subst ho
      refine ⟨by rfl, fun w hSw => ?_⟩
      (try dsimp only at hSw)
      go_simp
      try with_reducible rfl
     try simp only [Act.put, yA, yB, yC]
     refine wpAnyH_ready (rs := [9]) (by kernel_rfl) (by simp) ?_
     refine held_step (i := 9) (by kernel_rfl) (fun o ho K' hK => ?_) ?_
     ·simp only [zA, zB, zC, zD] at ho
      subst ho
      go_simp
      refine hK.out _ _ ?_ (fun hHeld => ?_)
      ·exact HF.out _ eS
      clear hK K'
      try simp only [yA, yB, yC]
      refine wpAnyH_ready (rs := [10]) (by kernel_rfl) (by simp) ?_
      refine held_step (i := 10) (by kernel_rfl) (fun o ho K' hK => ?_) ?_
      ·simp only [zA, zB, zC, zD] at ho
       subst ho
       go_simp
       refine hK.out _ _ ?_ (fun hHeld => ?_)
       ·exact HF.out _ eS
       clear hK K'
       try simp only [yA, yB, yC]
       refine wpAnyH_done (by kernel_rfl) ?_ _
       clear hHeld
       refine ⟨_, _, _, _, _, _, _, _, _, _, _, _, _, _, _, _, _, _, _, _, _, _, _, _, _, _, _, _, _, _, _, _, _, rfl, ?_⟩
       exact openIn_before HBW.out hyw4 hzb (by omega) (by first | (simp; done) | (simp; omega) | (simp only [World.size_alloc, World.heap_drew]; omega) | (have := (Array.getElem?_eq_some_iff.1 hzc).1; omega)) hop
      exact AllReadyH.nil
     exact AllReadyH.nil
    exact AllReadyH.nil
   exact AllReadyH.nil
  exact AllReadyH.nil
 cases ex with
 | normal =>
  obtain ⟨B, u8, u9, u10, u11, u12, u13, u14, u15, u16, u17, u18, u19, u20, u21, u22, u23, u24, u25, u26, u27, u28, u29, u30, u31, u32, u33, u34, u35, u36, u37, u38, u39, rfl, hxW, a1, n1, k1, y, z, a2, n2, k2, a3, n3, k3, hblk, hopn⟩ := h
  clear HAS HBU HBW
  obtain ⟨⟨y0, y1, y2, y3, y4⟩, _⟩ := open_cells hblk
  have HXW := Lib.hid (HX0.out.trans hxW)
  obtain ⟨_, _, _, _, x0, x1⟩ := HF.out _ hxW
  rcases askErr_or b (isBuyerB b x) with ⟨hz, _, hbu, hpp⟩ | hz
  ·have HNE := Lib.hid (reads_ne HB.out hbu hpp)
   clear hpp
   have hop := hopn hz
   rw [hz]
   clear hopn hblk hxW HX0 HF
   have hop2 := hop
   obtain ⟨_, _, _, hve, hbk, _⟩ := hop2
   cases hve
   obtain ⟨_, _, hve, hg, _⟩ := hbk
   cases hve
   obtain ⟨_, _, hve, _, _, _⟩ := hg.open
   cases hve
   have hed : ∃ s : Nat, x.editions = (s : Int) ∧ s < 8 := by
    have h := hbu
    unfold isBuyerB at h
    simp only [Bool.and_eq_true] at h
    have h1 := inB_iff.1 h.1.1
    have e3 := HB.out.e3
    have e1 := HB.out.e1
    have h2 : (2 : Int) ^ b.editions.toNat ≤ 8 := by
     rcases (by omega : b.editions.toNat = 1 ∨ b.editions.toNat = 2 ∨ b.editions.toNat = 3) with h | h | h <;> rw [h] <;> decide
    exact ⟨x.editions.toNat, by omega, by omega⟩
   obtain ⟨s, hs, hs8⟩ := hed
   have HWR := Lib.hid (fun (mv : Value) (e : Int) (l : List Int) (W1 : World) (h : Ext w' W1) (hm : IntsAt W1 mv l) (hl : l ∈ permsB b) => wrong2_any a1 a2 a3 k1 n2 k2 n3 k3 b.editions b.moves (.agg #[.int .i64 x.editions, .slice la x.letters.length lc]) mv b x e l W1 (hg.ext h) (HXB.out W1 (HXW.out.trans h)) hm hbu hl)
   have hxc : Ext w' (w'.alloc (.cells #[.slice none 0 0] 29)) := (Ext.refl w').alloc _
   have HCC := Lib.hid (fun (W1 : World) (h : Ext w' W1) => (⟨h.cell y0, h.cell y1, h.cell y2, h.cell y3, h.cell y4, h.cell x0, h.cell x1⟩ : _ ∧ _ ∧ _ ∧ _ ∧ _ ∧ _ ∧ _))
   have HOP := Lib.hid hop
   have HSS := Lib.hid hs
   have HBUH := Lib.hid hbu
   have HRD : Hid (readsB b x = readsTo b s b.editions.toNat) := by unfold Hid readsB; rw [hs, Int.toNat_natCast]
   clear y0 y1 y2 y3 y4 x0 x1 hg hop hs HXB HBB hbu
   obtain ⟨y0, y1, y2, y3, y4, x0, x1⟩ := HCC.out _ hxc
   clear hxc
   go_wp2_with (go_at_call 49; refine (reads_any _ _ _ ⟨_, _, _, _, _, _, _, _, _, _, _, rfl⟩ ⟨_, _, _, _, rfl⟩).mono ?_; rintro e w2 ⟨rfl, q0, q1, q2, q3, q4, z0, z1, hu, hv, rfl⟩; cases hu; cases hv)
   refine (wpIn_wide (n := 0)).1 ?_
   obtain ⟨Wg, hWg⟩ : ∃ Wg, Wg = ((w'.alloc (.cells #[.slice none 0 0] 29)).alloc (.cells #[.slice a1 b.goods.length k1, .int .i64 b.editions, .int .i64 b.moves, .slice a2 n2 k2, .slice a3 n3 k3] 95)).alloc (.cells #[.int .i64 x.editions, .slice la x.letters.length lc] 28) := ⟨_, rfl⟩
   have hxg : Ext w' Wg := by rw [hWg]; exact (((Ext.refl w').alloc _).alloc _).alloc _
   have hzg : Wg.heap.size = w'.heap.size + 3 := by rw [hWg]; simp
   have g4 : Wg.cell? ⟨w'.heap.size + 1, 4, none⟩ = some (.slice a3 n3 k3) := by rw [hWg]; go_simp
   have g5 : Wg.cell? ⟨w'.heap.size + 2, 0, none⟩ = some (.int .i64 x.editions) := by rw [hWg]; go_simp
   rw [HSS.out] at g5
   have hr0 : OddI b x w' 0 (.slice none 0 0) (fun j => j = w'.heap.size) Wg [] :=
    ⟨⟨hxg, by rw [hWg]; go_simp, by rw [hWg]; go_simp, World.ownsRow_nil _ _ _ _, fun j => ⟨.inl, fun h => h.elim id (fun h => by cases h)⟩⟩, .inl rfl, by simp, fun r hr => by simp at hr⟩
   rw [← hWg]
   clear hWg y0 y1 y2 y3 y4 x0 x1
   refine wpIn_range (gf := 85) (lb := #[.pointer (some ⟨w'.heap.size + 1, 0, none⟩), .pointer (some ⟨w'.heap.size + 2, 0, none⟩)]) (by rfl) enters_reads1 (ReadIn w') (fun O O' A x v h k => k) (readsB b x) (fun j => j = w'.heap.size) ?hM ?hiter
    (fun k O W => ∃ ov vs, OddI b x w' k ov O W vs) (fun _ _ => False) ?hI (fun _ _ _ h _ => h.elim) ⟨_, _, hr0⟩
    (fun k O r v a' W => ∃ (bb : Nat) (mv : Value), v = .agg #[.int .i64 r.1, mv] ∧ IntsAt w' mv r.2 ∧ ¬ O bb ∧ W.cell? ⟨bb, 0, none⟩ = some (.int .i64 r.1) ∧ W.cell? ⟨bb, 1, none⟩ = some mv ∧ ∃ (t0 t1 t4 t5 t7 t10 t11 t12 t13 t14 t15 t16 t17 t18 t19 t20 t21 t22 t23 t24 t25 t26 t27 t28 t29 t30 t31 t32 t33 t34 t35 t36 t37 t38 t39 : Value), a' = { tmps := #[t0, t1, .pointer (some ⟨w.heap.size, 0, none⟩), .pointer (some ⟨w.heap.size + 1, 0, none⟩), t4, t5, .pointer (some ⟨B, 0, none⟩), t7, .pointer (some ⟨w'.heap.size, 0, none⟩), .pointer (some ⟨bb, 0, none⟩), t10, t11, t12, t13, t14, t15, t16, t17, t18, t19, t20, t21, t22, t23, t24, t25, t26, t27, t28, t29, t30, t31, t32, t33, t34, t35, t36, t37, t38, t39], defers := [] }) ?hAx ?hassign ?hbody ?hdone ?hstop
   case hM => intro j hj; omega
   case hiter =>
    intro W1 h1 h2
    have := reads_iter b s (w'.heap.size + 1) (w'.heap.size + 2) _ _ _ _ _ w' W1 (fun k => k = w'.heap.size ∨ k = Wg.heap.size + 1) HB.out HOP.out (hxg.trans h1) hs8 (fun i hi => by rcases hi with hi | hi <;> omega) (fun h => by rcases h with h | h <;> omega) (fun h => by rcases h with h | h <;> omega) (h1.cell g4) (h1.cell g5)
    rw [HRD.out]; exact this
   case hI =>
    rintro k O A B' ⟨ov, vs, h⟩ q
    exact ⟨ov, vs, h.quiet (q.mono (by omega))⟩
   case hAx =>
    rintro k O r v a' A B' ⟨bb, mv, rfl, h1, hO, h2, h3, h4⟩ q
    obtain ⟨_, _, rfl, _⟩ := h1.open
    exact ⟨bb, _, rfl, h1, hO, q.cell h2 (NB.int _ _), q.cell h3 (NB.slice _ _ _), h4⟩
   case hstop => intro D c W _ h; exact h.elim
   case hassign =>
    rintro l k O r v W K ⟨ov, vs, hi⟩ hx ⟨hxe, mv, rfl, hm⟩ hK
    have HNO := Lib.hid (show ¬ O W.heap.size from fun h => by rcases (hi.col.low _).1 h with h | h; have := lt_of_cell hi.col.o; simp only at this; omega; have := (World.ownsRow.lt hi.col.own _ h).2; omega)
    have HK := Lib.hid hK
    have HM := Lib.hid hm
    obtain ⟨ma, mc, rfl, _⟩ := hm.open
    clear hK hi hm hxe
    gi_wp2
    refine HK.out _ (W.alloc (.cells #[.int .i64 r.1, .slice ma r.2.length mc] 91)) ((Ext.refl W).alloc _) ⟨W.heap.size, _, rfl, HM.out, HNO.out, by go_simp, by go_simp, ?_⟩
    (repeat apply Exists.intro)
    rfl
   case hbody =>
    rintro l k O r v a' W hl ⟨rc, hrc⟩ hOO ⟨ov, vs, hR⟩ hx ⟨bb, mv, rfl, hm, hbO, d0, d1, hA⟩ hsz
    obtain ⟨t0, hA⟩ := hA
    obtain ⟨t1, hA⟩ := hA
    obtain ⟨t4, hA⟩ := hA
    obtain ⟨t5, hA⟩ := hA
    obtain ⟨t7, hA⟩ := hA
    obtain ⟨t10, hA⟩ := hA
    obtain ⟨t11, hA⟩ := hA
    obtain ⟨t12, hA⟩ := hA
    obtain ⟨t13, hA⟩ := hA
    obtain ⟨t14, hA⟩ := hA
    obtain ⟨t15, hA⟩ := hA
    obtain ⟨t16, hA⟩ := hA
    obtain ⟨t17, hA⟩ := hA
    obtain ⟨t18, hA⟩ := hA
    obtain ⟨t19, hA⟩ := hA
    obtain ⟨t20, hA⟩ := hA
    obtain ⟨t21, hA⟩ := hA
    obtain ⟨t22, hA⟩ := hA
    obtain ⟨t23, hA⟩ := hA
    obtain ⟨t24, hA⟩ := hA
    obtain ⟨t25, hA⟩ := hA
    obtain ⟨t26, hA⟩ := hA
    obtain ⟨t27, hA⟩ := hA
    obtain ⟨t28, hA⟩ := hA
    obtain ⟨t29, hA⟩ := hA
    obtain ⟨t30, hA⟩ := hA
    obtain ⟨t31, hA⟩ := hA
    obtain ⟨t32, hA⟩ := hA
    obtain ⟨t33, hA⟩ := hA
    obtain ⟨t34, hA⟩ := hA
    obtain ⟨t35, hA⟩ := hA
    obtain ⟨t36, hA⟩ := hA
    obtain ⟨t37, hA⟩ := hA
    obtain ⟨t38, hA⟩ := hA
    obtain ⟨t39, hA⟩ := hA
    subst hA
    try dsimp only
    have hmix : Tryz.prog.follows .mixedOrders = true := by kernel_rfl
    have hrm := List.mem_of_getElem? hx
    rw [HRD.out] at hrm
    obtain ⟨_, _, hh1, hh2, hpg⟩ := reads_mem hrm
    clear hh1 hh2
    have hxW := hR.col.ext
    have HWX := Lib.hid (fun (W1 : World) (h : Ext W W1) => HWR.out mv r.1 r.2 W1 (hxW.trans h) (hm.ext (hxW.trans h)) (page_perm hpg))
    obtain ⟨ma, mc, rfl, _⟩ := hm.open
    have hform : ∃ a n c, ov = .slice a n c := by obtain ⟨_, ⟨rfl, _⟩ | ⟨g, cap, cur, rfl, _⟩⟩ := hR.col.own <;> exact ⟨_, _, _, rfl⟩
    obtain ⟨va, vn, vc, rfl⟩ := hform
    have hrl : vs.length ≤ 10000 := by
     have h := congrArg List.length hR.rs
     rw [List.length_map, List.length_map, List.length_take] at h
     have := readsB_len HB.out x
     omega
    have HSZ := Lib.hid (show vs.length + 0 + 1 ≤ maxLen ∧ (vs.length + 0 + 1) * 24 ≤ 140737488355328 by unfold maxLen; omega)
    have HR := Lib.hid hR
    have HX := Lib.hid hx
    have HOO := Lib.hid hOO
    have hbz : w'.heap.size + 1 ≤ W.heap.size := by have := lt_of_cell hR.col.o; exact this
    have HBO := Lib.hid (fun (h : Value.ownBlock (.slice va vn vc) = some bb) => hbO ((hR.col.low _).2 (.inr h)))
    have HSB := Lib.hid (fun (W1 : World) (h : Ext W W1) => (⟨hxW.trans h, h.cell d0, h.cell d1, (hR.col.ext' h).o⟩ : _ ∧ _ ∧ _ ∧ _))
    clear hR hx hm hOO hrm hpg hrl hxW hr0 g4 g5 hbO
    gi_upto_region 7 with fail
    refine wpIn_region_any hmix (wpAny_inRound (noDefer_at (by kernel_rfl)) (by rintro ⟨_, _, h⟩; exact h) _ _ _ _ (wpAny_of_till (z := 7) (S := (fun W' => Ext w' W' ∧ W'.cell? ⟨bb, 0, none⟩ = some (.int .i64 r.1) ∧ W'.cell? ⟨bb, 1, none⟩ = some (.slice ma r.2.length mc) ∧ W'.cell? ⟨w'.heap.size, 0, none⟩ = some (.slice va vn vc))) _ _ _ _ ?_))
    change wpTill _ _ _ _ _ _ _ _ _ W.drew
    have hS0 := (show Ext w' (W.drew) ∧ (W.drew).cell? ⟨bb, 0, none⟩ = some (.int .i64 r.1) ∧ (W.drew).cell? ⟨bb, 1, none⟩ = some (.slice ma r.2.length mc) ∧ (W.drew).cell? ⟨w'.heap.size, 0, none⟩ = some (.slice va vn vc) from HSB.out _ (Ext.refl W).drew)
    refine till_at (i := 0) (d := some 27) (v := ?_) (by kernel_rfl) (by kernel_rfl) (by kernel_rfl) (by kernel_rfl) (by kernel_rfl) (fun _ _ _ h => h) (fun o ho => ?_) hS0 ?_
    rotate_left
    ·simp only [zA, zB, zD] at ho
     subst ho
     refine Or.inl ⟨by rfl, fun w' hSw => ?_⟩
     obtain ⟨hSw0, hSw1, hSw2, hSw3⟩ := hSw
     obtain ⟨y0, y1, y2, y3, y4, x0, x1⟩ := HCC.out _ hSw0
     go_simp
     try with_reducible rfl
    try simp only [Act.put, yA, yB, yC]
    refine till_at (i := 1) (d := some 28) (v := ?_) (by kernel_rfl) (by kernel_rfl) (by kernel_rfl) (by kernel_rfl) (by kernel_rfl) (fun _ _ _ h => h) (fun o ho => ?_) hS0 ?_
    rotate_left
    ·simp only [zA, zB, zC, zD] at ho
     subst ho
     refine Or.inl ⟨by rfl, fun w' hSw => ?_⟩
     obtain ⟨hSw0, hSw1, hSw2, hSw3⟩ := hSw
     obtain ⟨y0, y1, y2, y3, y4, x0, x1⟩ := HCC.out _ hSw0
     go_simp
     try with_reducible rfl
    try simp only [Act.put, yA, yB, yC]
    refine till_at (i := 2) (d := some 29) (v := ?_) (by kernel_rfl) (by kernel_rfl) (by kernel_rfl) (by kernel_rfl) (by kernel_rfl) (fun _ _ _ h => h) (fun o ho => ?_) hS0 ?_
    rotate_left
    ·simp only [zA, zB, zC, zD] at ho
     subst ho
     refine Or.inl ⟨by rfl, fun w' hSw => ?_⟩
     obtain ⟨hSw0, hSw1, hSw2, hSw3⟩ := hSw
     obtain ⟨y0, y1, y2, y3, y4, x0, x1⟩ := HCC.out _ hSw0
     go_simp
     try with_reducible rfl
    try simp only [Act.put, yA, yB, yC]
    refine till_at (i := 3) (d := some 30) (v := ?_) (by kernel_rfl) (by kernel_rfl) (by kernel_rfl) (by kernel_rfl) (by kernel_rfl) (fun _ _ _ h => h) (fun o ho => ?_) hS0 ?_
    rotate_left
    ·simp only [zA, zB, zC, zD] at ho
     subst ho
     refine Or.inl ⟨by rfl, fun w' hSw => ?_⟩
     obtain ⟨hSw0, hSw1, hSw2, hSw3⟩ := hSw
     obtain ⟨y0, y1, y2, y3, y4, x0, x1⟩ := HCC.out _ hSw0
     go_simp
     try with_reducible rfl
    try simp only [Act.put, yA, yB, yC]
    refine till_step (i := 4) (by kernel_rfl) (by kernel_rfl) (fun o ho K' hK => ?_)
    simp only [zA, zB, zC, zD] at ho
    subst ho
    go_simp
    go_at_call 50
    refine (HWX.out _ (Ext.refl W).drew).mono ?_
    rintro q w2 ⟨u, rfl, hx2, hu, hu2⟩
    have hx12 := (Ext.refl W).drew.trans hx2
    have hu3 := hu
    obtain ⟨ua, uc, rfl, _⟩ := hu3.open
    go_simp
    have hS4 := (show Ext w' (w2) ∧ (w2).cell? ⟨bb, 0, none⟩ = some (.int .i64 r.1) ∧ (w2).cell? ⟨bb, 1, none⟩ = some (.slice ma r.2.length mc) ∧ (w2).cell? ⟨w'.heap.size, 0, none⟩ = some (.slice va vn vc) from HSB.out _ hx12)
    refine hK.out _ _ (fun _ => hS4) (fun _ => ?_)
    clear hK K'
    try simp only [Act.put, yA, yB, yC]
    refine till_step (i := 5) (by kernel_rfl) (by kernel_rfl) (fun o ho K' hK => ?_)
    simp only [zA, zB, zC, zD] at ho
    subst ho
    go_simp
    have hS5 := (show Ext w' (w2.alloc (.cells #[.slice ua (wrongB b x r.2).length uc] 42)) ∧ (w2.alloc (.cells #[.slice ua (wrongB b x r.2).length uc] 42)).cell? ⟨bb, 0, none⟩ = some (.int .i64 r.1) ∧ (w2.alloc (.cells #[.slice ua (wrongB b x r.2).length uc] 42)).cell? ⟨bb, 1, none⟩ = some (.slice ma r.2.length mc) ∧ (w2.alloc (.cells #[.slice ua (wrongB b x r.2).length uc] 42)).cell? ⟨w'.heap.size, 0, none⟩ = some (.slice va vn vc) from HSB.out _ (hx12.alloc _))
    refine hK.out _ _ (fun _ => hS5) (fun _ => ?_)
    clear hK K'
    try simp only [Act.put, yA, yB, yC]
    refine till_step (i := 6) (by kernel_rfl) (by kernel_rfl) (fun o ho K' hK => ?_)
    simp only [zA, zB, zC, zD] at ho
    subst ho
    refine step_push_n (q := 0) E_intss (by rfl) _ _ (by rfl) (w'.heap.size + 1) (by rfl) (HR.out.col.ext' hx12).own (by rfl) (by rfl) (by rfl) (by decide) (by simp [Value.oneCell']) ?_ HSZ.out.1 HSZ.out.2 (Nat.le_trans hbz hx12.size)
    intro g cap w5 hown5 hg5 hloc5
    obtain ⟨⟨hq0, hq1⟩, z2, z3, z4⟩ := HR.out.push HX.out hx12 hu (fun a n c he => ⟨by have := (hu2 a n c he).1; have e : W.drew.heap.size = W.heap.size := rfl; omega, (hu2 a n c he).2⟩) hown5 hg5 hloc5
    have hT5 : Touch (fun k => Value.ownBlock (.slice va vn vc) = some k) W w5 := (Touch.of_ext (hx12.alloc _)).trans (Touch.grown hg5 (fun k hk => hk))
    have hS6 := (show Ext w' (w5) ∧ (w5).cell? ⟨bb, 0, none⟩ = some (.int .i64 r.1) ∧ (w5).cell? ⟨bb, 1, none⟩ = some (.slice ma r.2.length mc) ∧ (w5).cell? ⟨w'.heap.size, 0, none⟩ = some (.slice va vn vc) from ⟨Touch.ext HR.out.col.ext hT5 (fun j hj => by have := owns_block HR.out.col.own _ hj; omega), hT5.cell d0 HBO.out, hT5.cell d1 HBO.out, hq0⟩)
    refine hK.out _ _ (fun _ => hS6) (fun _ => ?_)
    clear hK K'
    try simp only [Act.put, yA, yB, yC]
    refine till_step (i := 7) (by kernel_rfl) (by kernel_rfl) (fun o ho K' hK => ?_)
    simp only [zA, zB, zC, zD] at ho
    subst ho
    go_simp
    refine hK.out _ _ (fun h => absurd rfl h) (fun _ => ?_)
    clear hK K'
    try simp only [Act.put, yA, yB, yC]
    refine till_done (by kernel_rfl) ?_ _
    try simp only [Act.put, yA, yB, yC]
    exact ⟨z2, _, z3, _, _, z4⟩
   case hdone =>
    intro D O W hD hOO ⟨ov, vs, hR⟩ hd
    have hrs := hR.rs
    rw [List.take_length] at hrs
    have hll := congrArg List.length hrs
    rw [List.length_map, List.length_map] at hll
    have hl0 : 0 < vs.length := by rw [hll]; exact List.length_pos_iff.2 HNE.out
    have o0 := hR.col.o
    have hrow : RowOf (fun z : Value × List Int => [z.1]) W ov vs := by
     have h := RowAt.of_owns hR.col.own
     rw [← flat_one vs] at h
     exact h
    have HFX := Lib.hid (fun (w8 : World) (h8 : Ext W w8) => besti_any ov vs w8 (hrow.ext h8) (fun q hq => (hR.ms q hq).1.ext h8) hl0)
    have HMS := Lib.hid hR.ms
    have HRS := Lib.hid hrs
    have HXE := Lib.hid hR.col.ext
    have HDD := Lib.hid hd
    obtain ⟨va, vc, rfl, _⟩ := RowAt.open hrow
    clear hrow hR hrs hll hOO hr0 g4 g5 hd
    try dsimp only
    have HRR := Lib.hid (fun (w4 : World) (u : Value) (h : Ext w w4) (hu : IntsAt w4 u (oddB b x)) => (⟨h, .inr ⟨hz, u, rfl, hu⟩⟩ : OddRes b x w (.returned (.tuple #[u, .int .i64 0])) w4))
    go_wp2_with (go_at_call 51; refine (HFX.out _ (Ext.refl W)).mono ?_; rintro e w2 ⟨q, hqm, hqb, rfl, rfl⟩; have HQ := Lib.hid (And.intro hqm hqb); clear hqm hqb)
    refine ⟨by simp, .inl ⟨_, _, rfl, run_takeDeferred HDD.out, ?_⟩⟩
    have hq2 := Quiet.putObj (n := w'.heap.size) (.deferred none) HDD.out (by omega) rfl
    refine ⟨.tuple #[q.1, .int .i64 0], by simp [results, Tryz.results21, go_sem], HRR.out _ q.1 (HXW.out.trans (HXE.out.quiet (Nat.le_refl _) hq2)) ?_⟩
    have hbest : oddB b x = q.2 := by
     unfold oddB wrongsB
     rw [← HRS.out, best_map Prod.snd (lt := ltO) HQ.out.2]; rfl
    rw [hbest]
    exact ints_quiet (HMS.out q HQ.out.1).1 hq2
  ·have hz0 : (askErr b (isBuyerB b x) == 0) = false := by simpa using hz
   have hR : ∀ w', Ext w w' → OddRes b x w (.returned (.tuple #[.slice none 0 0, .int .i64 (askErr b (isBuyerB b x))])) w' := fun w' h => ⟨h, .inl ⟨hz, rfl⟩⟩
   have HR := Lib.hid hR
   clear hR hz hopn hblk y0 y1 y2 y3 y4 x0 x1 hxW
   generalize askErr b (isBuyerB b x) = zz at *
   go_wp2
   exact ⟨_, by simp [results, Tryz.results21, go_sem], HR.out _ HXW.out⟩
 | _ => exact h.elim
end Go.Proofs.YtokananogogjaaaGreatDoor
