/- opened: the walk. -/
import Derived.Test.YtokananogogjaaaGreatDoorOj
namespace Go.Proofs.YtokananogogjaaaGreatDoor
open Go.RowKit
attribute [local go_sem] Oper.semAt_some
theorem PermIn.low {n0 n1 : Nat} {O : Nat → Prop} {A : World} {x : List Int} {v : Value} (h : PermIn n0 O A x v) (hn : n1 ≤ n0) : PermIn n1 O A x v := ⟨h.1, fun a n c e => ⟨(h.2 a n c e).1, Nat.le_trans hn (h.2 a n c e).2.1, (h.2 a n c e).2.2⟩⟩
theorem ints_nb (xs : List Int) : ∀ u, u ∈ xs.map (Value.int .i64) → NB u := by
 intro u hu
 obtain ⟨x, _, rfl⟩ := List.mem_map.1 hu
 exact NB.int _ _
theorem PermIn.quiet {n0 n : Nat} {O : Nat → Prop} {A B : World} {x : List Int} {v : Value} (h : PermIn n0 O A x v) (q : Quiet n A B) : PermIn n0 O B x v := ⟨q.row h.1 (ints_nb _), fun a m c e => ⟨(h.2 a m c e).1, (h.2 a m c e).2.1, Nat.lt_of_lt_of_le (h.2 a m c e).2.2 q.size⟩⟩
theorem pgCells_nb {r : List Pg} (h : ∀ p, p ∈ r → NB p.v) : ∀ u, u ∈ pgCells r → NB u := by
 intro u hu
 obtain ⟨p, hp, hu⟩ := List.mem_flatMap.1 hu
 simp only [pgC, List.mem_cons, List.not_mem_nil, or_false] at hu
 rcases hu with rfl | rfl | rfl
 ·exact h p hp
 ·exact NB.int _ _
 ·exact NB.int _ _
/-- What lies in memory while the pages of edition e are collected. -/
structure RgI (b : Book) (w0 : World) (e k : Nat) (lv : Value) (r : List Pg) (O : Nat → Prop) (W : World) : Prop where
 col : ColI w0 (w0.heap.size + 1) 100 3 r.length (pgCells r) lv O W
 c4 : W.cell? ⟨w0.heap.size, 0, none⟩ = some (.int .i64 (e : Int))
 nz : lv = .slice none 0 0 ∨ 0 < r.length
 spec : r.map Pg.l = ((permsB b).take k).filter fun l => suitsB b e l
 one : ∀ p, p ∈ r → p.bef = 1 ∧ p.aft = 1
 mean : ∀ p, p ∈ r → PermIn (w0.heap.size + 2) O W p.l p.v
theorem PermIn.nb {n0 : Nat} {O : Nat → Prop} {A : World} {x : List Int} {v : Value} (h : PermIn n0 O A x v) : NB v := by
 obtain ⟨⟨a, c, rfl, _⟩, _⟩ := h; exact NB.slice _ _ _
theorem RgI.quiet {b : Book} {w0 : World} {e k n : Nat} {lv : Value} {r : List Pg} {O : Nat → Prop} {A B : World} (h : RgI b w0 e k lv r O A) (q : Quiet n A B) (hn : w0.heap.size ≤ n) : RgI b w0 e k lv r O B :=
 ⟨h.col.quiet q hn (pgCells_nb fun p hp => (h.mean p hp).nb) (.inr (h.nz.imp id fun h => ⟨h, by decide⟩)), q.cell h.c4 (NB.int _ _), h.nz, h.spec, h.one, fun p hp => (h.mean p hp).quiet q⟩
theorem RgI.ext' {b : Book} {w0 : World} {e k : Nat} {lv : Value} {r : List Pg} {O : Nat → Prop} {A B : World} (h : RgI b w0 e k lv r O A) (q : Ext A B) : RgI b w0 e k lv r O B :=
 ⟨h.col.ext' q, q.cell h.c4, h.nz, h.spec, h.one, fun p hp => (h.mean p hp).ext q⟩
theorem RgI.skip {b : Book} {w0 : World} {e k : Nat} {lv : Value} {r : List Pg} {O : Nat → Prop} {A : World} {x : List Int} (h : RgI b w0 e k lv r O A) (hx : (permsB b)[k]? = some x) (hs : suitsB b e x = false) : RgI b w0 e (k + 1) lv r O A :=
 ⟨h.col, h.c4, h.nz, by rw [List.take_add_one, hx, Option.toList_some, List.filter_append, ← h.spec]; simp [hs], h.one, h.mean⟩
theorem RgI.push {b : Book} {w0 : World} {e k : Nat} {lv v : Value} {r : List Pg} {O : Nat → Prop} {A w2 w5 : World} {x : List Int} {g cap : Nat} {e' : TypeId} (h : RgI b w0 e k lv r O A) (hx : (permsB b)[k]? = some x) (hs : suitsB b e x = true) (hv : PermIn (w0.heap.size + 2) O A x v) (q : Ext A w2)
 (hown5 : w5.ownsRow (w0.heap.size + 1 + 1) 100 3 (.slice (some ⟨g, 0, none⟩) (r.length + 1) cap) (r.length + 1) (pgCells r ++ [v, .int .i64 1, .int .i64 1])) (hg5 : (w2.alloc (.cells #[v, .int .i64 1, .int .i64 1] e')).grownBy w5 lv.ownBlock) (hloc : lv.ownBlock = some g ∨ g = w2.heap.size + 1) :
 (w5.cell? ⟨w0.heap.size + 1, 0, none⟩ = some lv ∧ w5.frozen? ⟨w0.heap.size + 1, 0, none⟩ = false) ∧ Touch O A (w5.setCell ⟨w0.heap.size + 1, 0, none⟩ (.slice (some ⟨g, 0, none⟩) (r.length + 1) cap)) ∧
 (∀ j, j = w0.heap.size + 1 ∨ j = g → (O j ∨ A.heap.size ≤ j) ∧ j < (w5.setCell ⟨w0.heap.size + 1, 0, none⟩ (.slice (some ⟨g, 0, none⟩) (r.length + 1) cap)).heap.size) ∧
 RgI b w0 e (k + 1) (.slice (some ⟨g, 0, none⟩) (r.length + 1) cap) (r ++ [⟨v, x, 1, 1⟩]) (fun j => j = w0.heap.size + 1 ∨ j = g) (w5.setCell ⟨w0.heap.size + 1, 0, none⟩ (.slice (some ⟨g, 0, none⟩) (r.length + 1) cap)) := by
 obtain ⟨p1, p2, p3, p4⟩ := h.col.push (us := pgCells (r ++ [⟨v, x, 1, 1⟩])) (by omega) q (by rw [pgCells_push]; exact hown5) hg5 hloc
 refine ⟨p1, p2, p3, by rw [List.length_append]; exact p4, p2.cell h.c4 (fun hh => ?_), .inr (by simp), ?_, fun p hp => ?_, fun p hp => ?_⟩
 ·rcases (h.col.low _).1 hh with hh | hh
  ·simp only at hh; omega
  ·have := owns_block h.col.own _ hh; simp only at this; omega
 ·rw [List.take_add_one, hx, Option.toList_some, List.filter_append, ← h.spec]; simp [hs]
 ·rcases List.mem_append.1 hp with hp | hp
  ·exact h.one p hp
  ·rw [List.mem_singleton] at hp; subst hp; exact ⟨rfl, rfl⟩
 ·have hO : ∀ j, (j = w0.heap.size + 1 ∨ j = g) → O j ∨ A.heap.size ≤ j := fun j hj => (p3 j hj).1
  rcases List.mem_append.1 hp with hp | hp
  ·exact (h.mean p hp).touch p2 hO
  ·rw [List.mem_singleton] at hp; subst hp; exact hv.touch p2 hO
/-- The row of an edition, when all orders have come. -/
theorem RgI.row {b : Book} {w0 : World} {e : Nat} {lv : Value} {r : List Pg} {O : Nat → Prop} {W : World} (h : RgI b w0 e (permsB b).length lv r O W) : PgRow W (w0.heap.size + 2) W.heap.size lv r ∧ r.map Pg.l = spB b e := by
 refine ⟨⟨h.col.own, fun g hg => (World.ownsRow.lt h.col.own g hg).2, fun p hp => (h.mean p hp).1, fun p hp a n k e => ?_⟩, by rw [h.spec, List.take_length]; rfl⟩
 have := (h.mean p hp).2 a n k e
 exact ⟨this.2.1, this.2.2, fun hh => this.1 ((h.col.low _).2 (.inr hh))⟩
theorem rg_len {b : Book} (hB : BookB b) {w0 : World} {e k : Nat} {lv : Value} {r : List Pg} {O : Nat → Prop} {W : World} (h : RgI b w0 e k lv r O W) : r.length ≤ 3125 := by
 have := congrArg List.length h.spec
 rw [List.length_map] at this
 have h1 := List.length_filter_le (fun l => suitsB b e l) ((permsB b).take k)
 have h2 : ((permsB b).take k).length ≤ (permsB b).length := by rw [List.length_take]; omega
 have := perms_count hB
 omega
/-- What opened answers: its pages can be read whatever becomes of older blocks. -/
def OpenP (b : Book) (v : Value) (w : World) (e : Ending) (w' : World) : Prop := ∃ ga gc ea ec pv, v = .agg #[.slice ga b.goods.length gc, .int .i64 b.editions, .int .i64 b.moves, .slice ea b.entries.length ec] ∧ e = .returned (.agg #[.slice ga b.goods.length gc, .int .i64 b.editions, .int .i64 b.moves, .slice ea b.entries.length ec, pv]) ∧ Ext w w' ∧ BookAt w' (.agg #[.slice ga b.goods.length gc, .int .i64 b.editions, .int .i64 b.moves, .slice ea b.entries.length ec]) b ∧
 ∀ W', KeepC w.heap.size w' W' → PagesAt W' pv b
set_option maxRecDepth 100000 in
set_option maxHeartbeats 16000000 in
theorem opened_any (v : Value) (b : Book) (w : World) (hB : BookB b) (hb : BookAt w v b) :
 Calls Tryz.prog 82 #[v] w (OpenP b v w) := by
 have HSU := Lib.hid (fun lv (e : Nat) l (hll : l.length = b.goods.length) W1 (h : Ext w W1) (hl : IntsAt W1 lv l) => suits_any v lv b e l W1 hB (hb.ext h) hl hll)
 have HBK0 := Lib.hid hb
 have hb0 := hb
 obtain ⟨ga, gc, ea, ec, rfl, hgl, hel⟩ := hb.open
 have HB := Lib.hid hB
 have hg5 := hB.g5
 have he3 := hB.e3
 have he1 := hB.e1
 clear hb hb0 hB
 refine (callsIn_wide (n := 0)).1 ?_
 refine callsIn_of_wp_marks Tryz.func82 rfl trivial ?_ rfl
 simp only [Tryz.ntmps82, List.size_toArray, List.length_cons, List.length_nil, Nat.reduceAdd, Nat.reduceSub, Array.replicate_succ, Array.replicate_zero, List.push_toArray, List.append_toArray, List.nil_append, List.cons_append]
 refine (wpIn_wide (n := 0)).2 ?_
 go_wp2
 have h0 : OpI b (.slice ga b.goods.length gc) (.slice ea b.entries.length ec) w (.slice none 0 0) [] [] [] [] (((w.alloc (.cells #[(.slice ga b.goods.length gc), .int .i64 b.editions, .int .i64 b.moves, (.slice ea b.entries.length ec)] 25)).alloc (.cells #[.slice none 0 0, .int .i64 0, .int .i64 0, .slice none 0 0, .slice none 0 0] 95)).alloc (.cells #[(.slice ga b.goods.length gc), .int .i64 b.editions, .int .i64 b.moves, (.slice ea b.entries.length ec), .slice none 0 0] 95)) :=
  ⟨((((Ext.refl w).alloc _).alloc _).alloc _), ⟨by go_simp, by go_simp, by go_simp, by go_simp⟩, by
    refine (Below.heap_alloc _ _ _ (by simp)).trans ?_
    have := World.alloc_heap_new (w.alloc (.cells #[(.slice ga b.goods.length gc), .int .i64 b.editions, .int .i64 b.moves, (.slice ea b.entries.length ec)] 25)) (.cells #[.slice none 0 0, .int .i64 0, .int .i64 0, .slice none 0 0, .slice none 0 0] 95)
    rwa [World.size_alloc] at this, ⟨by go_simp, by go_simp, by go_simp, by go_simp⟩, by go_simp, by go_simp, World.ownsRow_nil _ _ _ _, rfl, rfl, fun _ _ _ _ h => by simp at h, fun _ _ _ _ h => by simp at h, fun _ _ h => by simp at h, MarksAt.nil _ _⟩
 generalize (((w.alloc (.cells #[(.slice ga b.goods.length gc), .int .i64 b.editions, .int .i64 b.moves, (.slice ea b.entries.length ec)] 25)).alloc (.cells #[.slice none 0 0, .int .i64 0, .int .i64 0, .slice none 0 0, .slice none 0 0] 95)).alloc (.cells #[(.slice ga b.goods.length gc), .int .i64 b.editions, .int .i64 b.moves, (.slice ea b.entries.length ec), .slice none 0 0] 95)) = W0 at h0 ⊢
 refine wp_loop (fun a' W => ∃ (e : Nat) (ds : List Deferred) (pv : Value) (vs : List Value) (iv : List (Nat × Nat)) (rows : List (List Pg)), ((e : Int) ≤ b.editions ∧ rows.length = e ∧ OpI b (.slice ga b.goods.length gc) (.slice ea b.entries.length ec) w pv vs iv rows ds W) ∧ ∃ (u0 u4 u5 u6 u7 u8 u9 u10 u11 u12 u13 u16 u17 u18 u19 u20 u21 u22 u23 u24 u25 u26 u27 u28 u29 u30 u31 u32 u33 u34 u35 u36 u37 u38 u39 u40 u41 u42 u43 u44 u45 u46 u47 u48 u49 u50 u51 u52 u53 u54 u55 u56 u57 u58 u59 u60 u61 u62 u63 u64 u65 u66 u67 u68 u69 u70 u71 u72 u73 u74 u75 u76 u77 u78 u79 : Value), a' = { tmps := (u0 :: .pointer (some ⟨w.heap.size, 0, none⟩) :: .pointer (some ⟨w.heap.size + 1, 0, none⟩) :: .pointer (some ⟨w.heap.size + 2, 0, none⟩) :: u4 :: u5 :: u6 :: u7 :: u8 :: u9 :: u10 :: u11 :: u12 :: u13 :: .int .i64 b.editions :: .int .i64 (e : Int) :: u16 :: u17 :: u18 :: u19 :: u20 :: u21 :: u22 :: u23 :: u24 :: u25 :: u26 :: u27 :: u28 :: u29 :: u30 :: u31 :: u32 :: u33 :: u34 :: u35 :: u36 :: u37 :: u38 :: u39 :: u40 :: u41 :: u42 :: u43 :: u44 :: u45 :: u46 :: u47 :: u48 :: u49 :: u50 :: u51 :: u52 :: u53 :: u54 :: u55 :: u56 :: u57 :: u58 :: u59 :: u60 :: u61 :: u62 :: u63 :: u64 :: u65 :: u66 :: u67 :: u68 :: u69 :: u70 :: u71 :: u72 :: u73 :: u74 :: u75 :: u76 :: u77 :: u78 :: u79 :: []).toArray, defers := ds }) (fun a' W => (b.editions - intOf (a'.tmps.getD 15 undef)).toNat) ?_ ?_
 ·refine ⟨0, [], _, [], [], [], ⟨by omega, rfl, h0⟩, ?_⟩
  (repeat apply Exists.intro)
  rfl
 intro a' wr hinv
 clear h0
 obtain ⟨e, ds, pv, vs, iv, rows, ⟨he, hre, hO⟩, hinv⟩ := hinv
 obtain ⟨u0, hinv⟩ := hinv
 obtain ⟨u4, hinv⟩ := hinv
 obtain ⟨u5, hinv⟩ := hinv
 obtain ⟨u6, hinv⟩ := hinv
 obtain ⟨u7, hinv⟩ := hinv
 obtain ⟨u8, hinv⟩ := hinv
 obtain ⟨u9, hinv⟩ := hinv
 obtain ⟨u10, hinv⟩ := hinv
 obtain ⟨u11, hinv⟩ := hinv
 obtain ⟨u12, hinv⟩ := hinv
 obtain ⟨u13, hinv⟩ := hinv
 obtain ⟨u16, hinv⟩ := hinv
 obtain ⟨u17, hinv⟩ := hinv
 obtain ⟨u18, hinv⟩ := hinv
 obtain ⟨u19, hinv⟩ := hinv
 obtain ⟨u20, hinv⟩ := hinv
 obtain ⟨u21, hinv⟩ := hinv
 obtain ⟨u22, hinv⟩ := hinv
 obtain ⟨u23, hinv⟩ := hinv
 obtain ⟨u24, hinv⟩ := hinv
 obtain ⟨u25, hinv⟩ := hinv
 obtain ⟨u26, hinv⟩ := hinv
 obtain ⟨u27, hinv⟩ := hinv
 obtain ⟨u28, hinv⟩ := hinv
 obtain ⟨u29, hinv⟩ := hinv
 obtain ⟨u30, hinv⟩ := hinv
 obtain ⟨u31, hinv⟩ := hinv
 obtain ⟨u32, hinv⟩ := hinv
 obtain ⟨u33, hinv⟩ := hinv
 obtain ⟨u34, hinv⟩ := hinv
 obtain ⟨u35, hinv⟩ := hinv
 obtain ⟨u36, hinv⟩ := hinv
 obtain ⟨u37, hinv⟩ := hinv
 obtain ⟨u38, hinv⟩ := hinv
 obtain ⟨u39, hinv⟩ := hinv
 obtain ⟨u40, hinv⟩ := hinv
 obtain ⟨u41, hinv⟩ := hinv
 obtain ⟨u42, hinv⟩ := hinv
 obtain ⟨u43, hinv⟩ := hinv
 obtain ⟨u44, hinv⟩ := hinv
 obtain ⟨u45, hinv⟩ := hinv
 obtain ⟨u46, hinv⟩ := hinv
 obtain ⟨u47, hinv⟩ := hinv
 obtain ⟨u48, hinv⟩ := hinv
 obtain ⟨u49, hinv⟩ := hinv
 obtain ⟨u50, hinv⟩ := hinv
 obtain ⟨u51, hinv⟩ := hinv
 obtain ⟨u52, hinv⟩ := hinv
 obtain ⟨u53, hinv⟩ := hinv
 obtain ⟨u54, hinv⟩ := hinv
 obtain ⟨u55, hinv⟩ := hinv
 obtain ⟨u56, hinv⟩ := hinv
 obtain ⟨u57, hinv⟩ := hinv
 obtain ⟨u58, hinv⟩ := hinv
 obtain ⟨u59, hinv⟩ := hinv
 obtain ⟨u60, hinv⟩ := hinv
 obtain ⟨u61, hinv⟩ := hinv
 obtain ⟨u62, hinv⟩ := hinv
 obtain ⟨u63, hinv⟩ := hinv
 obtain ⟨u64, hinv⟩ := hinv
 obtain ⟨u65, hinv⟩ := hinv
 obtain ⟨u66, hinv⟩ := hinv
 obtain ⟨u67, hinv⟩ := hinv
 obtain ⟨u68, hinv⟩ := hinv
 obtain ⟨u69, hinv⟩ := hinv
 obtain ⟨u70, hinv⟩ := hinv
 obtain ⟨u71, hinv⟩ := hinv
 obtain ⟨u72, hinv⟩ := hinv
 obtain ⟨u73, hinv⟩ := hinv
 obtain ⟨u74, hinv⟩ := hinv
 obtain ⟨u75, hinv⟩ := hinv
 obtain ⟨u76, hinv⟩ := hinv
 obtain ⟨u77, hinv⟩ := hinv
 obtain ⟨u78, hinv⟩ := hinv
 obtain ⟨u79, hinv⟩ := hinv
 subst hinv
 try dsimp only
 by_cases hlt : (e : Int) < b.editions
 ·have HO := Lib.hid hO
  have HRE := Lib.hid hre
  obtain ⟨b0, b1, b2, b3⟩ := hO.box
  clear hO hre
  have hxw : Ext wr ((wr.alloc (.cells #[.int .i64 (e : Int)] 3)).alloc (.cells #[.slice none 0 0] 98)) := ((Ext.refl wr).alloc _).alloc _
  replace b0 := hxw.cell b0
  replace b1 := hxw.cell b1
  clear hxw
  go_wp2_with (go_at_call 115; refine (orders_any _ _).mono ?_; rintro r w' ⟨rfl, rfl⟩)
  refine (wpIn_wide (n := 0)).1 ?_
  obtain ⟨Wg, hWg⟩ : ∃ Wg, Wg = ((wr.alloc (.cells #[.int .i64 (e : Int)] 3)).alloc (.cells #[.slice none 0 0] 98)).alloc (.cells #[.int .i64 (b.goods.length : Int)] 3) := ⟨_, rfl⟩
  have hxg : Ext wr Wg := by rw [hWg]; exact (((Ext.refl wr).alloc _).alloc _).alloc _
  have hzg : Wg.heap.size = wr.heap.size + 3 := by rw [hWg]; simp
  have hgc : Wg.cell? ⟨wr.heap.size + 2, 0, none⟩ = some (.int .i64 (b.goods.length : Int)) := by rw [hWg]; go_simp
  have hr0 : RgI b wr e 0 (.slice none 0 0) [] (fun j => j = wr.heap.size + 1) Wg :=
   ⟨⟨hxg, by rw [hWg]; go_simp, by rw [hWg]; go_simp, World.ownsRow_nil _ _ _ _, fun j => ⟨.inl, fun h => h.elim id (fun h => by cases h)⟩⟩, by rw [hWg]; go_simp, .inl rfl, by simp, fun p hp => by simp at hp, fun p hp => by simp at hp⟩
  rw [← hWg]
  clear hWg b0 b1 b2 b3
  refine wpIn_range (gf := 147) (lb := #[.pointer (some ⟨wr.heap.size + 2, 0, none⟩)]) (by rfl) enters_orders1 (PermIn (Wg.heap.size + 2)) (fun O O' A x v h k => PermIn.less k h) (permsB b) (fun j => j = wr.heap.size + 1) ?hM ?hiter
   (fun k O W => ∃ lv r, RgI b wr e k lv r O W) (fun _ _ => False) ?hI (fun _ _ _ h _ => h.elim) ⟨_, _, hr0⟩
   (fun k O x v a' W => PermIn (Wg.heap.size + 2) O W x v ∧ ∃ (u0 u7 u8 u9 u10 u11 u12 u13 u16 u17 u18 u19 u20 u21 u22 u23 u24 u25 u26 u27 u28 u29 u30 u31 u32 u33 u34 u35 u36 u37 u38 u39 u40 u41 u42 u43 u44 u45 u46 u47 u48 u49 u50 u51 u52 u53 u54 u55 u56 u57 u58 u59 u60 u61 u62 u63 u64 u65 u66 u67 u68 u69 u70 u71 u72 u73 u74 u75 u76 u77 u78 u79 : Value), a' = { tmps := (u0 :: .pointer (some ⟨w.heap.size, 0, none⟩) :: .pointer (some ⟨w.heap.size + 1, 0, none⟩) :: .pointer (some ⟨w.heap.size + 2, 0, none⟩) :: .pointer (some ⟨wr.heap.size, 0, none⟩) :: .pointer (some ⟨wr.heap.size + 1, 0, none⟩) :: v :: u7 :: u8 :: u9 :: u10 :: u11 :: u12 :: u13 :: .int .i64 b.editions :: .int .i64 (e : Int) :: u16 :: u17 :: u18 :: u19 :: u20 :: u21 :: u22 :: u23 :: u24 :: u25 :: u26 :: u27 :: u28 :: u29 :: u30 :: u31 :: u32 :: u33 :: u34 :: u35 :: u36 :: u37 :: u38 :: u39 :: u40 :: u41 :: u42 :: u43 :: u44 :: u45 :: u46 :: u47 :: u48 :: u49 :: u50 :: u51 :: u52 :: u53 :: u54 :: u55 :: u56 :: u57 :: u58 :: u59 :: u60 :: u61 :: u62 :: u63 :: u64 :: u65 :: u66 :: u67 :: u68 :: u69 :: u70 :: u71 :: u72 :: u73 :: u74 :: u75 :: u76 :: u77 :: u78 :: u79 :: []).toArray, defers := [] }) ?hAx ?hassign ?hbody ?hdone ?hstop
  case hM => intro j hj; omega
  case hiter =>
   intro W1 h1 h2
   have := orders_iter b.goods.length (wr.heap.size + 2) W1 (fun k => k = wr.heap.size + 1 ∨ k = Wg.heap.size + 1) (by omega) (fun h => by rcases h with h | h <;> omega) (h1.cell hgc)
   rw [h2]; exact this
  case hI =>
   rintro k O A B ⟨lv, r, h⟩ q
   exact ⟨lv, r, h.quiet q (by omega)⟩
  case hAx =>
   rintro k O x v a' A B ⟨h1, h2⟩ q
   exact ⟨h1.quiet q, h2⟩
  case hstop => intro D c W _ h; exact h.elim
  case hassign =>
   intro l k O x v W K hi hx hen hK
   have HK := Lib.hid hK
   have hen' := hen
   obtain ⟨⟨_, _, rfl, _⟩, _⟩ := hen'
   clear hK
   gi_wp2
   refine HK.out _ W (Ext.refl W) ⟨hen, ?_⟩
   (repeat apply Exists.intro)
   rfl
  case hbody =>
   rintro l k O x v a' W hl ⟨rc, hrc⟩ hOO ⟨lv, r, hR⟩ hx ⟨hpm, hA⟩ hsz
   obtain ⟨u0, hA⟩ := hA
   obtain ⟨u7, hA⟩ := hA
   obtain ⟨u8, hA⟩ := hA
   obtain ⟨u9, hA⟩ := hA
   obtain ⟨u10, hA⟩ := hA
   obtain ⟨u11, hA⟩ := hA
   obtain ⟨u12, hA⟩ := hA
   obtain ⟨u13, hA⟩ := hA
   obtain ⟨u16, hA⟩ := hA
   obtain ⟨u17, hA⟩ := hA
   obtain ⟨u18, hA⟩ := hA
   obtain ⟨u19, hA⟩ := hA
   obtain ⟨u20, hA⟩ := hA
   obtain ⟨u21, hA⟩ := hA
   obtain ⟨u22, hA⟩ := hA
   obtain ⟨u23, hA⟩ := hA
   obtain ⟨u24, hA⟩ := hA
   obtain ⟨u25, hA⟩ := hA
   obtain ⟨u26, hA⟩ := hA
   obtain ⟨u27, hA⟩ := hA
   obtain ⟨u28, hA⟩ := hA
   obtain ⟨u29, hA⟩ := hA
   obtain ⟨u30, hA⟩ := hA
   obtain ⟨u31, hA⟩ := hA
   obtain ⟨u32, hA⟩ := hA
   obtain ⟨u33, hA⟩ := hA
   obtain ⟨u34, hA⟩ := hA
   obtain ⟨u35, hA⟩ := hA
   obtain ⟨u36, hA⟩ := hA
   obtain ⟨u37, hA⟩ := hA
   obtain ⟨u38, hA⟩ := hA
   obtain ⟨u39, hA⟩ := hA
   obtain ⟨u40, hA⟩ := hA
   obtain ⟨u41, hA⟩ := hA
   obtain ⟨u42, hA⟩ := hA
   obtain ⟨u43, hA⟩ := hA
   obtain ⟨u44, hA⟩ := hA
   obtain ⟨u45, hA⟩ := hA
   obtain ⟨u46, hA⟩ := hA
   obtain ⟨u47, hA⟩ := hA
   obtain ⟨u48, hA⟩ := hA
   obtain ⟨u49, hA⟩ := hA
   obtain ⟨u50, hA⟩ := hA
   obtain ⟨u51, hA⟩ := hA
   obtain ⟨u52, hA⟩ := hA
   obtain ⟨u53, hA⟩ := hA
   obtain ⟨u54, hA⟩ := hA
   obtain ⟨u55, hA⟩ := hA
   obtain ⟨u56, hA⟩ := hA
   obtain ⟨u57, hA⟩ := hA
   obtain ⟨u58, hA⟩ := hA
   obtain ⟨u59, hA⟩ := hA
   obtain ⟨u60, hA⟩ := hA
   obtain ⟨u61, hA⟩ := hA
   obtain ⟨u62, hA⟩ := hA
   obtain ⟨u63, hA⟩ := hA
   obtain ⟨u64, hA⟩ := hA
   obtain ⟨u65, hA⟩ := hA
   obtain ⟨u66, hA⟩ := hA
   obtain ⟨u67, hA⟩ := hA
   obtain ⟨u68, hA⟩ := hA
   obtain ⟨u69, hA⟩ := hA
   obtain ⟨u70, hA⟩ := hA
   obtain ⟨u71, hA⟩ := hA
   obtain ⟨u72, hA⟩ := hA
   obtain ⟨u73, hA⟩ := hA
   obtain ⟨u74, hA⟩ := hA
   obtain ⟨u75, hA⟩ := hA
   obtain ⟨u76, hA⟩ := hA
   obtain ⟨u77, hA⟩ := hA
   obtain ⟨u78, hA⟩ := hA
   obtain ⟨u79, hA⟩ := hA
   subst hA
   try dsimp only
   have hxm := List.mem_of_getElem? hx
   have hxl := (perms_mem.1 hxm).1
   have hSUX := fun W1 (h : Ext W W1) => HSU.out v e x hxl W1 (HO.out.ext.trans (hR.col.ext.trans h)) (hpm.1.ext h)
   have HSX := Lib.hid hSUX
   have hbx := (HO.out.box.ext hR.col.ext)
   obtain ⟨b0, b1, b2, b3⟩ := hbx
   have c4 := hR.c4
   obtain ⟨va, vc, rfl, _, _, _⟩ := hpm.1.open
   have HR := Lib.hid hR
   have HX := Lib.hid hx
   have HPM := Lib.hid (hpm.low (n1 := wr.heap.size + 2) (by omega))
   have HOO := Lib.hid hOO
   have hrl := rg_len HB.out hR
   have HSZ := Lib.hid (show r.length + 1 ≤ maxLen ∧ (r.length + 1) * 40 ≤ 140737488355328 by unfold maxLen; omega)
   have hform : ∃ a n c, lv = .slice a n c := by obtain ⟨_, ⟨rfl, _⟩ | ⟨g, cap, cur, rfl, _⟩⟩ := hR.col.own <;> exact ⟨_, _, _, rfl⟩
   obtain ⟨ka, kn, kc, rfl⟩ := hform
   clear hR hx hpm hOO hxm hxl hSUX hrl hr0 hgc
   cases hs : suitsB b e x with
   | false =>
    rw [hs] at HSX
    have HS := Lib.hid hs
    clear hs
    gi_wp2_with (gi_at_call 116; refine (callsIn_round (HSX.out _ (Ext.refl _))).mono ?_; rintro q w2 ⟨rfl, hx2⟩)
    exact ⟨Touch.of_ext hx2, O, fun i hi => ⟨.inl hi, Nat.lt_of_lt_of_le (HOO.out i hi).2 hx2.size⟩, _, _, (HR.out.ext' hx2).skip HX.out HS.out⟩
   | true =>
    rw [hs] at HSX
    have HS := Lib.hid hs
    clear hs
    gi_wp2_with (first
     | (gi_at_call 116; refine (callsIn_round (HSX.out _ (Ext.refl _))).mono ?_; rintro q w2 ⟨rfl, hx2⟩; have o1 := (HR.out.col.ext' hx2).o; have hbz : wr.heap.size + 1 + 1 ≤ w2.heap.size := by (have := lt_of_cell o1; exact this))
     | (gi_at_builtin; refine wpListIn_push_at E_pages rfl _ _ rfl (wr.heap.size + 1 + 1) rfl (HR.out.col.ext' hx2).own rfl (by simp) rfl (by simp [Value.oneCell']) ?_ HSZ.out.1 HSZ.out.2 hbz; intro g cap w5 hown5 hext5 hg5 hloc5; obtain ⟨⟨z0, z1⟩, z2, z3, z4⟩ := HR.out.push HX.out HS.out HPM.out hx2 hown5 hg5 hloc5; have HZ := Lib.hid (And.intro z2 (And.intro z3 z4)); clear z2 z3 z4 hown5 hext5 hg5 hloc5))
    exact ⟨HZ.out.1, _, HZ.out.2.1, _, _, HZ.out.2.2⟩
  case hdone =>
   intro D O W hD hOO ⟨lv, r, hR⟩ hd
   have hO := HO.out
   have hxW := hR.col.ext
   have ho4 := hxW.cell hO.o4
   have hform : ∃ a n c, lv = .slice a n c := by obtain ⟨_, ⟨rfl, _⟩ | ⟨g, cap, cur, rfl, _⟩⟩ := hR.col.own <;> exact ⟨_, _, _, rfl⟩
   obtain ⟨ka, kn, kc, rfl⟩ := hform
   have ho5 := hR.col.o
   have hown := owns_ext hO.own hxW
   obtain ⟨pa, pc, rfl, _, _⟩ := owns_slice hO.own
   have hbz : w.heap.size + 3 ≤ W.heap.size := by have := lt_of_cell hO.o4; have := hxW.size; simp only at *; omega
   have HSZ := Lib.hid (show rows.length + 1 ≤ maxLen ∧ (rows.length + 1) * 24 ≤ 140737488355328 by have := HRE.out; unfold maxLen; omega)
   have HOW := Lib.hid hown
   have hrow := hR.row
   have HN := Lib.hid (fun (w5 : World) (g cap : Nat) (h1 : w5.ownsRow (w.heap.size + 3) 98 1 (.slice (some ⟨g, 0, none⟩) (rows.length + 1) cap) (rows.length + 1) (vs ++ [.slice ka kn kc])) (h2 : (W.alloc (.cells #[.slice ka kn kc] 98)).grownBy w5 (Value.ownBlock (.slice pa rows.length pc))) (h3 : Value.ownBlock (.slice pa rows.length pc) = some g ∨ g = W.heap.size + 1) =>
    hO.next hxW hrow.1 (by rw [HRE.out]; exact hrow.2) hR.one (by omega) hd h1 h2 h3)
   clear hO hR hxW hown hrow hr0 hgc hd hOO
   try dsimp only
   go_wp2_with (at_builtin; refine wpList_push_at E_pagess rfl _ _ rfl (w.heap.size + 3) rfl HOW.out rfl (by simp) rfl (by simp [Value.oneCell']) ?_ HSZ.out.1 HSZ.out.2 hbz; intro g cap w5 hown5 hext5 hg5 hloc5; obtain ⟨⟨z0, z1⟩, z2⟩ := HN.out w5 g cap hown5 hg5 hloc5; have HZ := Lib.hid z2; clear z2 hown5 hext5 hg5 hloc5)
   refine ⟨⟨e + 1, _, _, _, _, _, ⟨by omega, by rw [List.length_append, HRE.out]; rfl, HZ.out⟩, ?_⟩, ?_⟩
   ·(repeat apply Exists.intro)
    rfl
   ·simp [intOf]; omega
 ·have hee : (e : Int) = b.editions := by omega
  have hrl : (rows.length : Int) = b.editions := by omega
  obtain ⟨ob, oc, rfl, hG⟩ := hO.grid (by omega)
  have hA := are_first hO.are
  have HA := Lib.hid hA
  have HG := Lib.hid hG
  have HRL := Lib.hid hrl
  obtain ⟨b0, b1, b2, b3⟩ := hG.box
  obtain ⟨q0, q1, q2, q3⟩ := hG.obx
  have q4 := hG.o4
  have hlt1 : decide ((e : Int) < b.editions) = false := by rw [decide_eq_false_iff_not]; omega
  have HEE := Lib.hid hee
  have HRE := Lib.hid hre
  have HC1 := Lib.hid (fun (rows' : List (List Pg)) (W : World) (hg : OpG b (.slice ga b.goods.length gc) (.slice ea b.entries.length ec) w ob oc vs iv rows' ds W) (t : Nat) (ht : (t : Int) + 1 < b.editions) (hra : RowsAre b (bef2 b (t + 1)) (fun _ _ => 1) rows') (r s : List Pg) (hr : rows'[t + 1]? = some r) (hs : rows'[t]? = some s) =>
   count_any 1 118 119 Pg.bef (.inl rfl) (fun b o n x W h1 h2 => set1_any b o n x W h1 h2) (fun p W h => get1_any p W h) enters_set1 enters_get1 (.slice ga b.goods.length gc) (.slice ea b.entries.length ec) ⟨_, _, _, rfl⟩ ⟨_, _, _, rfl⟩ b.editions b.moves (w.heap.size + 3) ob oc vs iv rows' W hg.grid (t + 1) t r s hr hs (by omega)
    (fun p x hp hx => ((hra.len HB.out hr).2 p hp).trans ((hra.len HB.out hs).2 x hx).symm) (fun x hx => by rw [((hra t s hs).2 x hx).1]; exact bef2_bd HB.out _ _ (by omega) _) (hra.len HB.out hs).1 (hra.len HB.out hr).1)
  have HC2 := Lib.hid (fun (rows' : List (List Pg)) (W : World) (hg : OpG b (.slice ga b.goods.length gc) (.slice ea b.entries.length ec) w ob oc vs iv rows' ds W) (t : Nat) (ht : (t : Int) + 1 < b.editions) (hra : RowsAre b (bef2 b e) (aft3 b (t + 1)) rows') (r s : List Pg) (hr : rows'[t]? = some r) (hs : rows'[t + 1]? = some s) =>
   count_any 2 120 121 Pg.aft (.inr rfl) (fun b o n x W h1 h2 => set2_any b o n x W h1 h2) (fun p W h => get2_any p W h) enters_set2 enters_get2 (.slice ga b.goods.length gc) (.slice ea b.entries.length ec) ⟨_, _, _, rfl⟩ ⟨_, _, _, rfl⟩ b.editions b.moves (w.heap.size + 3) ob oc vs iv rows' W hg.grid t (t + 1) r s hr hs (by omega)
    (fun p x hp hx => ((hra.len HB.out hr).2 p hp).trans ((hra.len HB.out hs).2 x hx).symm) (fun x hx => by rw [((hra (t + 1) s hs).2 x hx).2]; exact aft3_bd HB.out _ _ (by omega) _) (hra.len HB.out hs).1 (hra.len HB.out hr).1)
  clear hO hG hA hrl hee hre
  go_wp2
  clear b0 b1 b2 b3 q0 q1 q2 q3 q4
  obtain ⟨w1, rfl⟩ : ∃ w1 : World, w1 = wr := ⟨_, rfl⟩
  go_loopw [41] (fun x wz => ∃ (t : Nat) (rows' : List (List Pg)), (t : Int) ≤ b.editions ∧ x = .int .i64 t ∧ Hid (rows'.length = rows.length) ∧ RowsAre b (bef2 b (max t 1)) (fun _ _ => 1) rows' ∧ OpG b (.slice ga b.goods.length gc) (.slice ea b.entries.length ec) w ob oc vs iv rows' ds wz) (fun x _ => (b.editions - intOf x).toNat)
  case atStart => exact ⟨0, rows, by omega, rfl, rfl, HA.out, HG.out⟩
  case round =>
   obtain ⟨t, rows', ht, rfl, hl, hra, hg⟩ := hrel
   by_cases htl : (t : Int) < b.editions
   ·have t1 : decide ((t : Int) < b.editions) = true := by simpa using htl
    rcases Nat.eq_zero_or_pos t with ht0 | htp
    ·have t2 : decide (0 < t) = false := by rw [decide_eq_false_iff_not]; omega
     have hra' : RowsAre b (bef2 b (max (t + 1) 1)) (fun _ _ => 1) rows' := by rw [ht0] at hra ⊢; exact hra
     have HRA := Lib.hid hra'
     have HGG := Lib.hid hg
     clear hra hra' hg ht0
     go_wp2
     go_roundw
     case rel => exact ⟨t + 1, rows', by omega, by go_num, hl, HRA.out, HGG.out⟩
     case measure => simp [intOf]; omega
    ·obtain ⟨q, rfl⟩ : ∃ q, t = q + 1 := ⟨t - 1, by omega⟩
     have hra' : RowsAre b (bef2 b (q + 1)) (fun _ _ => 1) rows' := by rw [show max (q + 1) 1 = q + 1 by omega] at hra; exact hra
     have hrl : (rows'.length : Int) = b.editions := by rw [hl.out]; exact HRL.out
     obtain ⟨r, hr⟩ : ∃ r, rows'[q + 1]? = some r := ⟨rows'[q + 1]'(by omega), by simp⟩
     obtain ⟨s, hs⟩ : ∃ s, rows'[q]? = some s := ⟨rows'[q]'(by omega), by simp⟩
     have HCN := Lib.hid (HC1.out rows' wr hg q (by omega) hra' r s hr hs)
     have HN := Lib.hid (ahead_step hra' hr hs)
     have HTU := Lib.hid (fun (W' : World) (rows2 : List (List Pg)) (h1 : Grid W' (w.heap.size + 3) ob oc vs iv rows2) (h2 : rows2.length = rows'.length) (h3 : Touch (fun k => ∃ v, vs[q + 1]? = some v ∧ v.ownBlock = some k) wr W') => hg.turn h1 h2 (h3.mono (fun k hk => .inr ⟨q + 1, hk⟩)))
     obtain ⟨q0, q1, q2, q3⟩ := hg.obx
     have q4 := hg.o4
     have w1' : wrap64 (((q + 1 : Nat) : Int) - 1) = (q : Int) := by rw [IntWalk.wrap64_in _ (by omega)]; omega
     have t2 : decide (0 < q + 1) = true := by simp
     clear hra hra' hg hrl hr hs htp
     go_wp2_with (go_at_call 117; refine (HCN.out).mono ?_; rintro x w' ⟨rfl, hg2, ht2⟩; have HG2 := Lib.hid hg2; have HT2 := Lib.hid ht2; clear hg2 ht2)
     go_roundw
     case rel => exact ⟨q + 2, _, by omega, by go_num, by unfold Hid; rw [List.length_set]; exact hl.out, by rw [show max (q + 2) 1 = q + 2 by omega]; exact HN.out, HTU.out _ _ HG2.out (by rw [List.length_set]) HT2.out⟩
     case measure => simp [intOf]; omega
   ·have t1 : decide ((t : Int) < b.editions) = false := by rw [decide_eq_false_iff_not]; omega
    have hte : t = e := by have := HEE.out; omega
    have hra' : RowsAre b (bef2 b e) (aft3 b (e - 1)) rows' := by
     rw [hte, show max e 1 = e by have := HEE.out; omega] at hra
     exact are_last HEE.out (by rw [hl.out]; exact HRE.out) hra
    have HRA := Lib.hid hra'
    have HGG := Lib.hid hg
    obtain ⟨b0, b1, b2, b3⟩ := hg.box
    clear hra hra' hg hte HA HG
    go_wp2
    clear b0 b1 b2 b3
    have HLR := Lib.hid (show rows'.length = e by rw [hl.out]; exact HRE.out)
    obtain ⟨w2, rfl⟩ : ∃ w2 : World, w2 = wr := ⟨_, rfl⟩
    go_loopw [8] (fun x wz => ∃ (z : Int) (t : Nat) (rows2 : List (List Pg)), x = .int .i64 z ∧ Hid (z = (t : Int) - 1) ∧ t < e ∧ Hid (rows2.length = e) ∧ RowsAre b (bef2 b e) (aft3 b t) rows2 ∧ OpG b (.slice ga b.goods.length gc) (.slice ea b.entries.length ec) w ob oc vs iv rows2 ds wz) (fun x _ => (intOf x + 1).toNat)
    case atStart => exact ⟨b.editions - 2, e - 1, rows', rfl, by unfold Hid; have := HEE.out; omega, by have := HEE.out; omega, HLR.out, HRA.out, HGG.out⟩
    case round =>
     obtain ⟨z, t, rows2, rfl, hz, hte, hl2, hra, hg⟩ := hrel
     rcases Nat.eq_zero_or_pos t with rfl | htp
     ·obtain rfl : z = -1 := by have := hz.out; omega
      have HRB := Lib.hid hra
      have HGB := Lib.hid hg
      obtain ⟨q0, q1, q2, q3⟩ := hg.obx
      have q4 := hg.o4
      clear hra hg hz
      go_wp2
      clear q0 q1 q2 q3 q4
      obtain ⟨w3, rfl⟩ : ∃ w3 : World, w3 = wr := ⟨_, rfl⟩
      have HDL := Lib.hid (fun t (ht : t ≤ rows2.length) => delTo_len rows2 ht)
      go_loopw [67] (fun x wz => ∃ (t : Nat) (vs' : List Value), t ≤ rows2.length ∧ x = .int .i64 t ∧ OpG b (.slice ga b.goods.length gc) (.slice ea b.entries.length ec) w ob oc vs' iv (delTo rows2 t) ds wz) (fun x _ => rows2.length - (intOf x).toNat)
      case atStart => exact ⟨0, vs, Nat.zero_le _, rfl, by rw [delTo_zero]; exact HGB.out⟩
      case round =>
       obtain ⟨t, vs', ht, rfl, hg⟩ := hrel
       by_cases htl : t < rows2.length
       ·obtain ⟨r, hr⟩ : ∃ r, rows2[t]? = some r := ⟨rows2[t], by simp [htl]⟩
        obtain ⟨v, i, v1, v2, v3, v4, v5, v6, v7⟩ := hg.grid.at (delTo_at hr)
        obtain ⟨sa, sc, rfl, _, _⟩ := owns_slice v4.own
        have hte2 : t < e := by have := hl2.out; omega
        have HDF := Lib.hid (fun W' (h : Ext wr W') => delete_any (.slice sa r.length sc) i.1 i.2 r W' (v4.ext h) (small_of HB.out HEE.out HRB.out hte2 hr) (HRB.out.len HB.out hr).1)
        have HS := Lib.hid (delTo_succ hr)
        have HTU := Lib.hid (fun (W4 : World) (v' : Value) (hx : Touch (fun b => Value.ownBlock (.slice sa r.length sc) = some b) wr W4) (hp : PgRow W4 i.1 i.2 v' (r.filter fun p => !deadP p)) => (hg.turn (hg.grid.put v1 v2 (delTo_at hr) hx hp).1 (by rw [List.length_set]) (hg.grid.put v1 v2 (delTo_at hr) hx hp).2))
        obtain ⟨q0, q1, q2, q3⟩ := hg.obx
        have q4 := hg.o4
        have hbk : ∀ b, Value.ownBlock (.slice sa r.length sc) = some b → w.heap.size + 3 ≤ b ∧ b ≠ ob := fun b hb => by
         have h1 := owns_block v4.own b hb
         have h2 := v4.blk b hb
         omega
        have HBK := Lib.hid hbk
        rw [HDL.out t (by omega)] at q4
        have hfo := (hg.grid.out.frozenAt t)
        have hob3 := (World.ownsRow.lt hg.grid.out ob rfl).1
        have t1 : (t : Int) < (rows2.length : Int) := by omega
        have t0 : (0 : Int) ≤ (t : Int) := by omega
        clear hg hbk hr v1 v2 v4 v5 v6 v7
        go_upto_region 25 with fail
        have hno : (⟨w.heap.size + 2, 4, none⟩ : Addr) ≠ ⟨ob, t, none⟩ := fun h => by have := congrArg Addr.block h; simp only at this; omega
        go_region_held3 (fun w' => w'.cell? ⟨w.heap.size + 2, 4, none⟩ = some (.slice (some ⟨ob, 0, none⟩) rows2.length oc)) (first | go_keep | exact q4w | (rw [World.cell?_setCell_other (h := hno.symm)]; exact q4w))
         (first | (go_at_call 122; refine (HDF.out _ (by first | exact (Ext.refl wr).drew | exact Ext.refl wr)).mono ?_; rintro y w4 ⟨a4, m4, c4, rfl, hp4, ht4, hb4⟩; have hT4 := (Touch.of_ext ((Ext.refl wr).drew)).trans ht4; have q4w := hT4.cell q4 (fun h => by have := (HBK.out _ h).1; simp only at this; omega); have z0 := hT4.cell v3 (fun h => (HBK.out _ h).2 rfl); have z1 := (hT4.frozen v3 (fun h => (HBK.out _ h).2 rfl)).trans hfo; have HP4 := Lib.hid hp4; have HT4 := Lib.hid hT4; clear hp4 ht4 hb4 hT4))
        go_wp2
        go_roundw
        case rel => exact ⟨t + 1, _, by omega, by go_num, by rw [← HS.out]; exact HTU.out w4 _ HT4.out HP4.out⟩
        case measure => simp [intOf]; omega
       ·have hte2 : t = e := by have := hl2.out; omega
        obtain ⟨q0, q1, q2, q3⟩ := hg.obx
        have q4 := hg.o4
        rw [HDL.out t (by omega)] at q4
        obtain ⟨⟨y0, y1, y2, y3, y4⟩, x0, x1, x2, x3, x4⟩ := open_cells hg.zb
        have hfin : ∃ W6, W6 = (((((wr.setCell ⟨w.heap.size + 1, 0, none⟩ (.slice ga b.goods.length gc)).setCell ⟨w.heap.size + 1, 1, none⟩ (.int .i64 b.editions)).setCell ⟨w.heap.size + 1, 2, none⟩ (.int .i64 b.moves)).setCell ⟨w.heap.size + 1, 3, none⟩ (.slice ea b.entries.length ec)).setCell ⟨w.heap.size + 1, 4, none⟩ (.slice (some ⟨ob, 0, none⟩) rows2.length oc)) ∧
         W6.heap[w.heap.size + 1]? = some (.cells #[.slice ga b.goods.length gc, .int .i64 b.editions, .int .i64 b.moves, .slice ea b.entries.length ec, .slice (some ⟨ob, 0, none⟩) rows2.length oc] 95) ∧ Ext w W6 ∧ MarksAt w.heap.size ds W6 ∧ ∀ W', KeepC w.heap.size W6 W' → PagesAt W' (.slice (some ⟨ob, 0, none⟩) rows2.length oc) b := by
         have hT := open_touch wr (w.heap.size + 1) (.slice ga b.goods.length gc) (.int .i64 b.editions) (.int .i64 b.moves) (.slice ea b.entries.length ec) (.slice (some ⟨ob, 0, none⟩) rows2.length oc)
         refine ⟨_, rfl, open_store hg.zb _ _ _ _ _, Touch.ext hg.ext hT (fun i hi => by omega), hg.marks.touch hT (fun i o hi ho l e => by rw [hi, hg.zb] at ho; cases ho; cases e), ?_⟩
         have hgd := hg.grid
         rw [hte2] at hgd
         have hgt := hgd.touch hT (fun i hi => by omega)
         rw [hl2.out] at hgt ⊢
         exact fun W' hk => Grid.pages HEE.out hl2.out HRB.out hgt (fun k o h1 h2 h3 => hk k o (by omega) h2 h3)
        obtain ⟨W6, hW6, hfin⟩ := hfin
        have HF := Lib.hid hfin
        clear hg hfin hte2
        go_wp2
        rw [← hW6]
        clear hW6
        refine marks_leave HF.out.2.2.1 ?_
        intro W' hk k1 k2 k3 k4
        have hE' := ext_marks HF.out.2.1 hk k1 k2 k3 k4
        have hh := hk _ _ HF.out.1 (.inr (fun l e => by cases e))
        refine ⟨.agg #[.slice ga b.goods.length gc, .int .i64 b.editions, .int .i64 b.moves, .slice ea b.entries.length ec, .slice (some ⟨ob, 0, none⟩) rows2.length oc], ?_, _, _, _, _, _, rfl, rfl, hE', HBK0.out.ext hE', fun W2 hk2 => HF.out.2.2.2 W2 ((KeepC.of_marks hk).trans hk2)⟩
        exact results_cell_row (by rfl) _ _ (w.heap.size + 1) 95 #[.slice ga b.goods.length gc, .int .i64 b.editions, .int .i64 b.moves, .slice ea b.entries.length ec, .slice (some ⟨ob, 0, none⟩) rows2.length oc] (0, 0) _ (by rfl) hh Tryz.underlying95 (by rfl) (by kernel_rfl)
     ·obtain ⟨q, rfl⟩ : ∃ q, t = q + 1 := ⟨t - 1, by omega⟩
      obtain rfl : z = (q : Int) := by have := hz.out; omega
      have hql : (q : Int) + 1 < b.editions := by have := HEE.out; omega
      obtain ⟨r, hr⟩ : ∃ r, rows2[q]? = some r := ⟨rows2[q]'(by have := hl2.out; omega), by simp⟩
      obtain ⟨s, hs⟩ : ∃ s, rows2[q + 1]? = some s := ⟨rows2[q + 1]'(by have := hl2.out; omega), by simp⟩
      have HCN := Lib.hid (HC2.out rows2 wr hg q hql hra r s hr hs)
      have HN := Lib.hid (after_step hql hra hr hs)
      have HTU := Lib.hid (fun (W' : World) (rows3 : List (List Pg)) (h1 : Grid W' (w.heap.size + 3) ob oc vs iv rows3) (h2 : rows3.length = rows2.length) (h3 : Touch (fun k => ∃ v, vs[q]? = some v ∧ v.ownBlock = some k) wr W') => hg.turn h1 h2 (h3.mono (fun k hk => .inr ⟨q, hk⟩)))
      obtain ⟨q0, q1, q2, q3⟩ := hg.obx
      have q4 := hg.o4
      clear hra hg hr hs htp hz
      go_wp2_with (go_at_call 117; refine (HCN.out).mono ?_; rintro x w' ⟨rfl, hg2, ht2⟩; have HG2 := Lib.hid hg2; have HT2 := Lib.hid ht2; clear hg2 ht2)
      go_roundw
      case rel => exact ⟨_, q, _, rfl, rfl, by omega, by unfold Hid; rw [List.length_set]; exact hl2.out, HN.out, HTU.out _ _ HG2.out (by rw [List.length_set]) HT2.out⟩
      case measure => simp [intOf]
end Go.Proofs.YtokananogogjaaaGreatDoor

/- asked; how many truths. -/
namespace Go.Proofs.YtokananogogjaaaGreatDoor
open Go.RowKit
def askErr (b : Book) (fine : Bool) : Int := if isBookB b && fine then (if (pageB b 0).isEmpty then 7 else 0) else 2
abbrev zeroOpen : Value := .agg #[.slice none 0 0, .int .i64 0, .int .i64 0, .slice none 0 0, .slice none 0 0]
/-- What asked answers: an open book stays readable while its new blocks and what was there before stay as they are. -/
def AskRes (v : Value) (b : Book) (fine : Bool) (w : World) (e : Ending) (w' : World) : Prop :=
 Ext w w' ∧ ((askErr b fine ≠ 0 ∧ e = .returned (.tuple #[zeroOpen, .int .i64 (askErr b fine)])) ∨ (askErr b fine = 0 ∧ ∃ ga gc ea ec pv, e = .returned (.tuple #[.agg #[.slice ga b.goods.length gc, .int .i64 b.editions, .int .i64 b.moves, .slice ea b.entries.length ec, pv], .int .i64 0]) ∧
  ∀ W', BookAt W' v b → KeepC w.heap.size w' W' → OpenAt W' (.agg #[.slice ga b.goods.length gc, .int .i64 b.editions, .int .i64 b.moves, .slice ea b.entries.length ec, pv]) b))
theorem KeepC.mono {n m : Nat} {A B : World} (h : KeepC n A B) (hn : n ≤ m) : KeepC m A B := fun k o hk ho hc => h k o (Nat.le_trans hn hk) ho hc
theorem AskRes.zero {v : Value} {b : Book} {fine : Bool} {w w' : World} {z : Int} (h : askErr b fine = z) (hz : z ≠ 0) (hx : Ext w w')   : AskRes v b fine w (.returned (.tuple #[zeroOpen, .int .i64 z])) w' := ⟨hx, .inl ⟨by rw [h]; exact hz, by rw [h]⟩⟩
/-- A row of an open book. -/
structure PageRow (w : World) (ob : Nat) (b : Book) (e : Nat) (v : Value) (r : List Pg) : Prop where
 cell : w.cell? ⟨ob, e, none⟩ = some v
 row : RowOf pgC w v r
 ls : r.map Pg.l = pageB b e
 nums : ∀ p, p ∈ r → p.bef = aheadB b e p.l ∧ p.aft = afterB b e p.l
 mean : ∀ p, p ∈ r → IntsAt w p.v p.l
 len : r.length ≤ 3125
theorem PageRow.ext {w w' : World} {ob : Nat} {b : Book} {e : Nat} {v : Value} {r : List Pg} (h : PageRow w ob b e v r) (k : Ext w w') : PageRow w' ob b e v r := ⟨k.cell h.cell, h.row.ext k, h.ls, h.nums, fun p hp => (h.mean p hp).ext k, h.len⟩
theorem OpenAt.open {w : World} {u : Value} {b : Book} (h : OpenAt w u b) (hB : BookB b) : ∃ ga gc ea ec ob oc n, u = .agg #[.slice ga b.goods.length gc, .int .i64 b.editions, .int .i64 b.moves, .slice ea b.entries.length ec, .slice (some ⟨ob, 0, none⟩) n oc] ∧ (n : Int) = b.editions ∧ n ≤ oc ∧ oc ≤ 9223372036854775807 ∧
 BookAt w (.agg #[.slice ga b.goods.length gc, .int .i64 b.editions, .int .i64 b.moves, .slice ea b.entries.length ec]) b ∧ ∀ e : Nat, (e : Int) < b.editions → ∃ va vc r, PageRow w ob b e (.slice va r.length vc) r := by
 obtain ⟨gv, ev, pv, rfl, hb, a, c, rows, rfl, h2, h3, h4, h5⟩ := h
 have he1 := hB.e1
 obtain ⟨_, _, ob, _, rfl, _⟩ := h5 0 (rows[0]'(by omega)) (by simp)
 have hb0 := hb
 obtain ⟨ga, gc, ea, ec, hv, _, _⟩ := hb.open
 cases hv
 refine ⟨ga, gc, ea, ec, ob, c, rows.length, rfl, h2, h3, h4, hb0, fun e he => ?_⟩
 have hel : e < rows.length := by omega
 obtain ⟨g1, g2, ob', v, hob, g4, g5, g6⟩ := h5 e rows[e] (by simp [hel])
 cases hob
 obtain ⟨va, vc, hv, _⟩ := RowAt.open g5
 subst hv
 refine ⟨va, vc, rows[e], g4, g5, g1, g2, g6, ?_⟩
 have := congrArg List.length g1
 rw [List.length_map] at this
 have h6 : (pageB b e).length ≤ (spB b e).length := List.length_filter_le _ _
 have := sp_count hB e
 omega
theorem OpenP.at {b : Book} {w : World} {ga ea : Option Addr} {gc ec : Nat} {pv : Value} (h : BookAt w (.agg #[.slice ga b.goods.length gc, .int .i64 b.editions, .int .i64 b.moves, .slice ea b.entries.length ec]) b) (hp : PagesAt w pv b) : OpenAt w (.agg #[.slice ga b.goods.length gc, .int .i64 b.editions, .int .i64 b.moves, .slice ea b.entries.length ec, pv]) b := ⟨_, _, _, rfl, h, hp⟩
set_option maxRecDepth 100000 in
set_option maxHeartbeats 4000000 in
theorem asked_any (v : Value) (b : Book) (fine : Bool) (w : World) (hb : BookAt w v b) :
 Calls Tryz.prog 45 #[v, .bool fine] w (AskRes v b fine w) := by
 have HB0 := Lib.hid hb
 have HIB := Lib.hid (fun W1 (h : Ext w W1) => isBook_any v b W1 (hb.ext h))
 have HOP := Lib.hid (fun (hB : BookB b) W1 (h : Ext w W1) => opened_any v b W1 hB (hb.ext h))
 obtain ⟨ga, gc, ea, ec, rfl, hgl, hel⟩ := hb.open
 obtain ⟨W, hW⟩ : ∃ W, W = (w.alloc (bookBox (.slice ga b.goods.length gc) b (.slice ea b.entries.length ec))).alloc (.cells #[.slice none 0 0, .int .i64 0, .int .i64 0, .slice none 0 0, .slice none 0 0] 95) := ⟨_, rfl⟩
 have hx0 : Ext w W := by rw [hW]; exact ((Ext.refl w).alloc _).alloc _
 have HX0 := Lib.hid hx0
 have hwz : w.heap.size + 2 = W.heap.size := by rw [hW]; simp
 have c0 : W.cell? ⟨w.heap.size, 0, none⟩ = some (.slice ga b.goods.length gc) := by rw [hW]; go_simp
 have c1 : W.cell? ⟨w.heap.size, 1, none⟩ = some (.int .i64 b.editions) := by rw [hW]; go_simp
 have c2 : W.cell? ⟨w.heap.size, 2, none⟩ = some (.int .i64 b.moves) := by rw [hW]; go_simp
 have c3 : W.cell? ⟨w.heap.size, 3, none⟩ = some (.slice ea b.entries.length ec) := by rw [hW]; go_simp
 have zb : W.heap[w.heap.size + 1]? = some (.cells #[.slice none 0 0, .int .i64 0, .int .i64 0, .slice none 0 0, .slice none 0 0] 95) := by
  rw [hW]; have := World.alloc_heap_new (w.alloc (bookBox (.slice ga b.goods.length gc) b (.slice ea b.entries.length ec))) (.cells #[.slice none 0 0, .int .i64 0, .int .i64 0, .slice none 0 0, .slice none 0 0] 95); rwa [World.size_alloc] at this
 have HF := Lib.hid (fun W1 (h : Ext W W1) => (⟨h.cell c0, h.cell c1, h.cell c2, h.cell c3⟩ : _ ∧ _ ∧ _ ∧ _))
 have hZ : ∀ (W1 : World) (a0 a1 a2 a3 a4 : Value), Ext W W1 → ∃ W6, W6 = (((((W1.setCell ⟨w.heap.size + 1, 0, none⟩ a0).setCell ⟨w.heap.size + 1, 1, none⟩ a1).setCell ⟨w.heap.size + 1, 2, none⟩ a2).setCell ⟨w.heap.size + 1, 3, none⟩ a3).setCell ⟨w.heap.size + 1, 4, none⟩ a4) ∧
  W6.heap[w.heap.size + 1]? = some (.cells #[a0, a1, a2, a3, a4] 95) ∧ Touch (fun i => i = w.heap.size + 1) W1 W6 :=
  fun W1 a0 a1 a2 a3 a4 h => ⟨_, rfl, open_store ((h.block (by omega)).trans zb) _ _ _ _ _, open_touch W1 (w.heap.size + 1) a0 a1 a2 a3 a4⟩
 have HZS := Lib.hid hZ
 have HZ := Lib.hid (fun W1 (h : Ext W W1) => open_cells ((h.block (by omega)).trans zb))
 clear hb hx0 c0 c1 c2 c3 zb hZ
 cases h1 : isBookB b with
 | false =>
  rw [h1] at HIB
  have HR := Lib.hid (fun w' (hx : Ext w w') => AskRes.zero (v := .agg #[.slice ga b.goods.length gc, .int .i64 b.editions, .int .i64 b.moves, .slice ea b.entries.length ec]) (b := b) (fine := fine) (z := 2) (by unfold askErr; rw [h1]; rfl) (by decide) hx)
  clear h1
  go_enter Tryz.func45, Tryz.ntmps45
  go_upto_region 1 with fail
  unfold bookBox at hW
  rw [← hW]
  clear hW
  have hq := Ext.refl W
  obtain ⟨c0, c1, c2, c3⟩ := HF.out _ hq
  go_upto_region 2 with (go_at_call 77; refine (HIB.out _ HX0.out).mono ?_; rintro r w1 ⟨rfl, hx1⟩; obtain ⟨⟨y0, y1, y2, y3, y4⟩, x0, x1, x2, x3, x4⟩ := HZ.out _ hx1)
  obtain ⟨W6, hW6, hh, hT⟩ := HZS.out w1 (.slice none 0 0) (.int .i64 0) (.int .i64 0) (.slice none 0 0) (.slice none 0 0) hx1
  obtain ⟨⟨g0, g1, g2, g3, g4⟩, _⟩ := open_cells hh
  have HT6 := Lib.hid hT
  clear hh hT
  go_wp2
  rw [← hW6]
  clear hW6
  refine bodyPost_ret (v := .tuple #[zeroOpen, .int .i64 2]) (by simp [results, Tryz.results45, go_sem, g0, g1, g2, g3, g4]) rfl (HR.out _ (Touch.ext (HX0.out.trans hx1) HT6.out (fun i hi => by omega)))
 | true =>
  rw [h1] at HIB
  have hB := bookB_of h1
  cases fine with
  | false =>
   have HR := Lib.hid (fun w' (hx : Ext w w') => AskRes.zero (v := .agg #[.slice ga b.goods.length gc, .int .i64 b.editions, .int .i64 b.moves, .slice ea b.entries.length ec]) (b := b) (fine := false) (z := 2) (by unfold askErr; rw [h1]; rfl) (by decide) hx)
   clear h1
   go_enter Tryz.func45, Tryz.ntmps45
   go_upto_region 1 with fail
   unfold bookBox at hW
   rw [← hW]
   clear hW
   have hq := Ext.refl W
   obtain ⟨c0, c1, c2, c3⟩ := HF.out _ hq
   go_upto_region 2 with (go_at_call 77; refine (HIB.out _ HX0.out).mono ?_; rintro r w1 ⟨rfl, hx1⟩; obtain ⟨⟨y0, y1, y2, y3, y4⟩, x0, x1, x2, x3, x4⟩ := HZ.out _ hx1)
   obtain ⟨W6, hW6, hh, hT⟩ := HZS.out w1 (.slice none 0 0) (.int .i64 0) (.int .i64 0) (.slice none 0 0) (.slice none 0 0) hx1
   obtain ⟨⟨g0, g1, g2, g3, g4⟩, _⟩ := open_cells hh
   have HT6 := Lib.hid hT
   clear hh hT
   go_wp2
   rw [← hW6]
   clear hW6
   refine bodyPost_ret (v := .tuple #[zeroOpen, .int .i64 2]) (by simp [results, Tryz.results45, go_sem, g0, g1, g2, g3, g4]) rfl (HR.out _ (Touch.ext (HX0.out.trans hx1) HT6.out (fun i hi => by omega)))
  | true =>
   have HOB := Lib.hid (fun W1 h => HOP.out hB W1 h)
   have HB := Lib.hid hB
   have HE := Lib.hid (show askErr b true = (if (pageB b 0).isEmpty then 7 else 0) by unfold askErr; rw [h1]; rfl)
   have he1 := hB.e1
   have he3 := hB.e3
   clear HOP h1 hB
   go_enter Tryz.func45, Tryz.ntmps45
   go_upto_region 1 with fail
   unfold bookBox at hW
   rw [← hW]
   clear hW
   have hq := Ext.refl W
   obtain ⟨c0, c1, c2, c3⟩ := HF.out _ hq
   go_upto_region 4 with (first
    | (go_at_call 77; refine (HIB.out _ HX0.out).mono ?_; rintro r w1 ⟨rfl, hx1⟩; clear c0 c1 c2 c3; obtain ⟨c0, c1, c2, c3⟩ := HF.out _ hx1)
    | (go_at_call 82; refine (HOB.out _ (HX0.out.trans hx1)).mono ?_; rintro r w2 ⟨_, _, _, _, pv, hagg0, rfl, hx2, hbk, hpg⟩; cases hagg0; have hop := OpenP.at hbk (hpg _ (KeepC.refl _ _)); obtain ⟨_, _, _, _, ob, oc, n, hagg, hn, hno, hoc, _, hpr⟩ := hop.open HB.out; cases hagg; obtain ⟨va, vc, rr, hpr0⟩ := hpr 0 (by omega); have HBK := Lib.hid hbk; have HPG := Lib.hid hpg; have HPR := Lib.hid hpr0; clear hop hpr hpr0 hbk hpg))
   obtain ⟨W3, hW3⟩ : ∃ W3, W3 = w2.alloc (.cells #[.slice ga b.goods.length gc, .int .i64 b.editions, .int .i64 b.moves, .slice ea b.entries.length ec, .slice (some ⟨ob, 0, none⟩) n oc] 95) := ⟨_, rfl⟩
   have hx3 : Ext w2 W3 := by rw [hW3]; exact (Ext.refl w2).alloc _
   have d0 : W3.cell? ⟨w2.heap.size, 0, none⟩ = some (.slice ga b.goods.length gc) := by rw [hW3]; go_simp
   have d1 : W3.cell? ⟨w2.heap.size, 1, none⟩ = some (.int .i64 b.editions) := by rw [hW3]; go_simp
   have d2 : W3.cell? ⟨w2.heap.size, 2, none⟩ = some (.int .i64 b.moves) := by rw [hW3]; go_simp
   have d3 : W3.cell? ⟨w2.heap.size, 3, none⟩ = some (.slice ea b.entries.length ec) := by rw [hW3]; go_simp
   have d4 : W3.cell? ⟨w2.heap.size, 4, none⟩ = some (.slice (some ⟨ob, 0, none⟩) n oc) := by rw [hW3]; go_simp
   rw [← hW3]
   clear hW3
   have hp0 := (HPR.out.ext hx3).cell
   obtain ⟨⟨y0, y1, y2, y3, y4⟩, x0, x1, x2, x3, x4⟩ := HZ.out _ ((hx1.trans hx2).trans hx3)
   have hn0 : 0 < n := by omega
   have hrl := congrArg List.length HPR.out.ls
   rw [List.length_map] at hrl
   have HXX := Lib.hid (HX0.out.trans ((hx1.trans hx2).trans hx3))
   have HX3 := Lib.hid hx3
   have HW1 := Lib.hid (show w.heap.size + 1 < w1.heap.size by have := hx1.size; omega)
   have HX3W := Lib.hid ((hx1.trans hx2).trans hx3)
   clear c0 c1 c2 c3 hx1 hx2 hx3 hq
   cases hp : (pageB b 0).isEmpty with
   | true =>
    rw [hp, if_pos rfl] at HE
    have hl0 : rr.length = 0 := by rw [hrl]; simpa using hp
    have t1 : (rr.length == 0) = true := by rw [hl0]; rfl
    have t2 : ((rr.length : Int) == 0) = true := by rw [hl0]; rfl
    have HR := Lib.hid (fun w' (hx : Ext w w') => AskRes.zero (v := .agg #[.slice ga b.goods.length gc, .int .i64 b.editions, .int .i64 b.moves, .slice ea b.entries.length ec]) (b := b) (fine := true) (z := 7) HE.out (by decide) hx)
    clear hp hrl hl0
    obtain ⟨W6, hW6, hh, hT⟩ := HZS.out W3 (.slice none 0 0) (.int .i64 0) (.int .i64 0) (.slice none 0 0) (.slice none 0 0) HX3W.out
    obtain ⟨⟨g0, g1, g2, g3, g4⟩, _⟩ := open_cells hh
    have HT6 := Lib.hid hT
    clear hh hT
    go_wp2
    rw [← hW6]
    clear hW6
    refine bodyPost_ret (v := .tuple #[zeroOpen, .int .i64 7]) (by simp [results, Tryz.results45, go_sem, g0, g1, g2, g3, g4]) rfl (HR.out _ (Touch.ext HXX.out HT6.out (fun i hi => by omega)))
   | false =>
    rw [hp, if_neg (by decide)] at HE
    have hl0 : rr.length ≠ 0 := by rw [hrl]; intro h; rw [List.length_eq_zero_iff] at h; rw [h] at hp; cases hp
    have t1 : (rr.length == 0) = false := by simpa using hl0
    have t2 : ((rr.length : Int) == 0) = false := by rw [beq_eq_false_iff_ne]; omega
    obtain ⟨W6, hW6, hh, hT⟩ := HZS.out W3 (.slice ga b.goods.length gc) (.int .i64 b.editions) (.int .i64 b.moves) (.slice ea b.entries.length ec) (.slice (some ⟨ob, 0, none⟩) n oc) HX3W.out
    obtain ⟨⟨g0, g1, g2, g3, g4⟩, _⟩ := open_cells hh
    have HT6 := Lib.hid hT
    clear hh hT
    go_wp2
    rw [← hW6]
    clear hW6
    refine bodyPost_ret (v := .tuple #[(.agg #[.slice ga b.goods.length gc, .int .i64 b.editions, .int .i64 b.moves, .slice ea b.entries.length ec, .slice (some ⟨ob, 0, none⟩) n oc]), .int .i64 0]) (by simp [results, Tryz.results45, go_sem, g0, g1, g2, g3, g4]) rfl ⟨Touch.ext HXX.out HT6.out (fun i hi => by omega), .inr ⟨HE.out, _, _, _, _, _, rfl, fun W' hx' hk => ?_⟩⟩
    have hw1 := HW1.out
    refine OpenP.at hx' (HPG.out _ ((KeepC.of_ext HX3.out).trans ((KeepC.of_touch HT6.out (fun i hi => ?_)).trans (hk.mono (by omega)))))
    omega
end Go.Proofs.YtokananogogjaaaGreatDoor

/- How many truths a page, and a book, has. -/
namespace Go.Proofs.YtokananogogjaaaGreatDoor
open Go.RowKit
theorem first_any (p : Pg) (W : World) (hv : ∃ a n c, p.v = .slice a n c) :
 Calls Tryz.prog 89 #[.agg #[p.v, .int .i64 p.bef, .int .i64 p.aft]] W fun e w' => e = .returned (.int .i64 p.bef) ∧ Ext W w' := by
 obtain ⟨a, n, c, hv⟩ := hv
 rw [hv]
 go_enter Tryz.func89, Tryz.ntmps89
 go_wp2
 go_ret
 exact ⟨rfl, (Ext.refl W).alloc _⟩
theorem last_any (p : Pg) (W : World) (hv : ∃ a n c, p.v = .slice a n c) :
 Calls Tryz.prog 90 #[.agg #[p.v, .int .i64 p.bef, .int .i64 p.aft]] W fun e w' => e = .returned (.int .i64 p.aft) ∧ Ext W w' := by
 obtain ⟨a, n, c, hv⟩ := hv
 rw [hv]
 go_enter Tryz.func90, Tryz.ntmps90
 go_wp2
 go_ret
 exact ⟨rfl, (Ext.refl W).alloc _⟩
theorem enters_first : ∀ args w, (callFunc 89 args).run Tryz.prog w = .ok (.enter 89 args) w := enters_of Tryz.func89 (by kernel_rfl) rfl
theorem enters_last : ∀ args w, (callFunc 90 args).run Tryz.prog w = .ok (.enter 90 args) w := enters_of Tryz.func90 (by kernel_rfl) rfl
set_option maxRecDepth 100000 in
theorem ptruths_any (p : Pg) (W : World) (hv : ∃ a n c, p.v = .slice a n c) (h1 : 0 ≤ p.bef ∧ p.bef ≤ 100000000) (h2 : 0 ≤ p.aft ∧ p.aft ≤ 100000000) :
 Calls Tryz.prog 56 #[.agg #[p.v, .int .i64 p.bef, .int .i64 p.aft]] W fun e w' => e = .returned (.int .i64 (p.bef * p.aft)) ∧ Ext W w' := by
 have HFI := Lib.hid (fun W' => first_any p W' hv)
 have HLA := Lib.hid (fun W' => last_any p W' hv)
 have i0 : ∀ a b wq, (Instr.index 152 (.agg #[a, b]) (.int .i64 0)).run Tryz.prog wq = .ok a wq := fun a b wq => by kernel_rfl
 have i1 : ∀ a b wq, (Instr.index 152 (.agg #[a, b]) (.int .i64 1)).run Tryz.prog wq = .ok b wq := fun a b wq => by kernel_rfl
 have ef := enters_first
 have el := enters_last
 obtain ⟨a, n, c, hv⟩ := hv
 obtain ⟨v, l, bef, aft⟩ := p
 simp only at hv h1 h2 HFI HLA ⊢
 subst hv
 have hm : 0 ≤ bef * aft := Int.mul_nonneg h1.1 h2.1
 have hm2 : bef * aft ≤ 100000000 * 100000000 := Int.mul_le_mul h1.2 h2.2 h2.1 (by omega)
 have HW2 := Lib.hid (IntWalk.wrap64_in (bef * aft) (by omega))
 clear hm hm2
 go_enter Tryz.func56, Tryz.ntmps56
 go_wp2
 go_loopw [3, 11] (fun x k wr => (k = .int .i64 0 ∧ x = .int .i64 1 ∨ k = .int .i64 1 ∧ x = .int .i64 bef ∨ k = .int .i64 2 ∧ x = .int .i64 (bef * aft)) ∧ Ext W wr) (fun _ k _ => 2 - (intOf k).toNat)
 case atStart => exact ⟨.inl ⟨rfl, rfl⟩, (Ext.refl W).alloc _⟩
 case round =>
  obtain ⟨hrel, hx⟩ := hrel
  rcases hrel with ⟨rfl, rfl⟩ | ⟨rfl, rfl⟩ | ⟨rfl, rfl⟩
  ·go_wp2_with (refine Calls.mono (HFI.out _) ?_; rintro e w' ⟨rfl, hx'⟩)
   go_roundw
   case rel => exact ⟨.inr (.inl ⟨rfl, by simp⟩), hx.trans hx'⟩
   case measure => simp [intOf]
  ·go_wp2_with (refine Calls.mono (HLA.out _) ?_; rintro e w' ⟨rfl, hx'⟩)
   go_roundw
   case rel => exact ⟨.inr (.inr ⟨rfl, by rw [HW2.out]⟩), hx.trans hx'⟩
   case measure => simp [intOf]
  ·go_wp2
   go_ret
   exact ⟨rfl, hx⟩
end Go.Proofs.YtokananogogjaaaGreatDoor

/- How many truths an open book has. -/
namespace Go.Proofs.YtokananogogjaaaGreatDoor
open Go.RowKit
theorem many_bd {b : Book} (hB : BookB b) {e : Nat} (he : (e : Int) < b.editions) (l : List Int) : (0 ≤ aheadB b e l ∧ aheadB b e l ≤ 100000000) ∧ (0 ≤ afterB b e l ∧ afterB b e l ≤ 100000000) := by
 have h1 := bef2_bd hB (e + 1) e he l
 have h2 := aft3_bd hB 0 e he l
 unfold bef2 at h1
 unfold aft3 at h2
 rw [if_pos (by omega)] at h1 h2
 exact ⟨h1, h2⟩
theorem page_nums {b : Book} {e : Nat} {F : List Int → Int} {r : List Pg} (hr : r.map Pg.l = pageB b e) : (r.map fun p => F p.l) = (pageB b e).map F := by rw [← hr, List.map_map]; rfl
theorem nums_push {r : List Pg} {F : Pg → Int} {k : Nat} {p : Pg} (h : r[k]? = some p) : ((r.take (k + 1)).map F).map (Value.int .i64) = ((r.take k).map F).map (Value.int .i64) ++ (#[Value.int .i64 (F p)] : Array Value).toList := by
 rw [List.take_add_one, h]; simp
theorem many0_bd {b : Book} (hB : BookB b) (l : List Int) : 0 ≤ aheadB b 0 l * afterB b 0 l ∧ aheadB b 0 l * afterB b 0 l ≤ 100000000 := by
 have h0 := many_nonneg b 0 l
 have he1 := hB.e1
 have h1 := ahead_le hB 0 l
 have h3 := (many_bd hB (e := 0) (by omega) l).2
 have h4 := ahead_nonneg b 0 l
 refine ⟨h0, ?_⟩
 generalize aheadB b 0 l = x at h0 h1 h4
 simp only [Int.pow_zero] at h1
 rcases (by omega : x = 0 ∨ x = 1) with rfl | rfl
 ·rw [Int.zero_mul]; decide
 ·rw [Int.one_mul]; exact h3.2
set_option maxRecDepth 100000 in
set_option maxHeartbeats 4000000 in
theorem otruths_any (u : Value) (b : Book) (w : World) (hB : BookB b) (ho : OpenAt w u b) :
 Calls Tryz.prog 55 #[u] w fun e w' => e = .returned (.int .i64 (truthsB b)) ∧ Ext w w' := by
 have he1 := hB.e1
 have he0 : ((0 : Nat) : Int) < b.editions := by omega
 obtain ⟨ga, gc, ea, ec, ob, oc, n, rfl, hn, hno, hoc, _, hpr⟩ := ho.open hB
 obtain ⟨va, vc, r, hp⟩ := hpr 0 he0
 have hmn := fun (p : Pg) (_ : p ∈ r) => many0_bd hB p.l
 have htr : (r.map fun p => aheadB b 0 p.l * afterB b 0 p.l).sum = truthsB b := by rw [page_nums (F := fun l => aheadB b 0 l * afterB b 0 l) hp.ls]; rfl
 have hsb : ∀ x, x ∈ (r.map fun p => aheadB b 0 p.l * afterB b 0 p.l) → 0 ≤ x ∧ x ≤ 100000000 := fun x hx => by
  obtain ⟨p, hp', rfl⟩ := List.mem_map.1 hx
  exact hmn p hp'
 have HSB := Lib.hid hsb
 have hs2 : ∀ k, 0 ≤ ((r.map fun p => aheadB b 0 p.l * afterB b 0 p.l).take k).sum ∧ ((r.map fun p => aheadB b 0 p.l * afterB b 0 p.l).take k).sum ≤ 1000000000000000 := fun k => by
  have h1 := sums_bd hsb (by omega) k
  have h2 := sums_bd hsb (by omega) r.length
  have h3 := hp.len
  rcases Nat.le_total k r.length with hk | hk
  ·omega
  ·rw [List.take_of_length_le (by rw [List.length_map]; omega)] at h1 h2 ⊢
   omega
 have HS2 := Lib.hid hs2
 have HTR := Lib.hid htr
 have HBD := Lib.hid (fun l => many_bd hB he0 l)
 have hlen := hp.len
 obtain ⟨_, _, hve, l1, l2, l3⟩ := RowOf.open3 (f := pgC) (fun _ => rfl) hp.row
 cases hve
 have hn0 : (0 : Int) < (n : Int) := by omega
 obtain ⟨W0, hW0⟩ : ∃ W0, W0 = w.alloc (.cells #[.slice ga b.goods.length gc, .int .i64 b.editions, .int .i64 b.moves, .slice ea b.entries.length ec, .slice (some ⟨ob, 0, none⟩) n oc] 95) := ⟨_, rfl⟩
 have hx0 : Ext w W0 := by rw [hW0]; exact (Ext.refl w).alloc _
 have hz0 : W0.heap.size = w.heap.size + 1 := by rw [hW0]; simp
 have y4 : W0.cell? ⟨w.heap.size, 4, none⟩ = some (.slice (some ⟨ob, 0, none⟩) n oc) := by rw [hW0]; go_simp
 have y5 := hx0.cell hp.cell
 have HL3 := Lib.hid (fun i hi => (let ⟨bb, o, x, ha, hx, c0, c1, c2⟩ := l3 i hi; ⟨bb, o, x, ha, hx, hx0.cell c0, hx0.cell c1, hx0.cell c2⟩ : ∃ bb o x, va = some ⟨bb, o, none⟩ ∧ Hid (r[i]? = some x) ∧ W0.cell? ⟨bb, o + i * 3, none⟩ = some x.v ∧ W0.cell? ⟨bb, o + i * 3 + 1, none⟩ = some (.int .i64 x.bef) ∧ W0.cell? ⟨bb, o + i * 3 + 2, none⟩ = some (.int .i64 x.aft)))
 have HMN := Lib.hid hp.mean
 have HNU := Lib.hid hp.nums
 have HX0 := Lib.hid hx0
 have HZ0 := Lib.hid hz0
 clear hmn htr hsb hs2 hB ho hpr hp l3 hx0 he1 hz0
 go_enter Tryz.func55, Tryz.ntmps55
 go_upto_region 1 with fail
 rw [← hW0]
 clear hW0
 go_wp2
 go_loopw [3, 11] (fun o j wr => ∃ k : Nat, k ≤ r.length ∧ j = .int .i64 (k : Int) ∧ wr.ownsRow (w.heap.size + 1) 3 1 o k (((r.take k).map fun p => aheadB b 0 p.l * afterB b 0 p.l).map (.int .i64)) ∧ Ext W0 wr) (fun _ j _ => r.length - (intOf j).toNat)
 case atStart => exact ⟨0, Nat.zero_le _, rfl, World.ownsRow_nil _ _ _ _, Ext.refl _⟩
 case round =>
  obtain ⟨k, hk, rfl, hown, hx⟩ := hrel
  by_cases hlt : k < r.length
  ·obtain ⟨bb, bo, p, rfl, hpk, c0, c1, c2⟩ := HL3.out k hlt
   have hpm := List.mem_of_getElem? hpk.out
   obtain ⟨pa, pc, hpv, _⟩ := (HMN.out p hpm).open
   have hnu := HNU.out p hpm
   have hbd := HBD.out p.l
   have HPT := Lib.hid (fun W' => ptruths_any p W' ⟨_, _, _, hpv⟩ (by rw [hnu.1]; exact hbd.1) (by rw [hnu.2]; exact hbd.2))
   rw [hnu.1, hnu.2, hpv] at HPT
   rw [hpv] at c0
   rw [hnu.1] at c1
   rw [hnu.2] at c2
   have HNP := Lib.hid (nums_push (F := fun p => aheadB b 0 p.l * afterB b 0 p.l) hpk.out)
   have d0 := hx.cell c0
   have d1 := hx.cell c1
   have d2 := hx.cell c2
   have k1 : (0 : Int) ≤ (k : Int) := by omega
   have k2 : (k : Int) < (r.length : Int) := by omega
   have HSZ := Lib.hid (show k + 1 ≤ maxLen ∧ (k + 1) * 8 ≤ 140737488355328 by unfold maxLen; omega)
   obtain ⟨_, _, rfl, _⟩ := RowAt.open (RowAt.of_owns hown)
   have HOWN := Lib.hid hown
   have HX := Lib.hid hx
   have HBZ := Lib.hid (show w.heap.size + 1 ≤ wr.heap.size by have := hx.size; have := HZ0.out; omega)
   simp only at HNP
   generalize aheadB b 0 p.l = bf at HPT c1 d1 HNP
   generalize afterB b 0 p.l = af at HPT c2 d2 HNP
   clear hown hx hpk hnu hpv hbd c0 c1 c2 y4 y5
   go_wp2_with (first
    | (go_at_call 56; refine (HPT.out _).mono ?_; rintro e w2 ⟨rfl, hx2⟩; have hx3 := ((Ext.refl wr).alloc _).trans hx2)
    | (at_builtin; refine wpList_push_at E_ints rfl _ _ rfl (w.heap.size + 1) rfl (owns_ext HOWN.out hx3) rfl (by simp) rfl (by simp [Value.oneCell']) ?_ HSZ.out.1 HSZ.out.2 (Nat.le_trans HBZ.out hx3.size); intro g cap w5 hown5 hext5 hg5 hloc5))
   go_roundw
   case rel => exact ⟨k + 1, by omega, by go_num, by rw [HNP.out]; exact hown5, hext5 _ (HX.out.trans hx3) (Nat.le_of_eq HZ0.out)⟩
   case measure => simp [intOf]; omega
  ·have hke : r.take k = r := List.take_of_length_le (by omega)
   rw [hke] at hown
   have hkl : k = (r.map fun p => aheadB b 0 p.l * afterB b 0 p.l).length := by rw [List.length_map]; omega
   rw [hkl] at hown
   generalize (r.map fun p => aheadB b 0 p.l * afterB b 0 p.l) = L at hown hkl HSB HS2 HTR
   have HIN := Lib.hid (IntsAt.of_owns hown)
   have HSM := Lib.hid (fun v hv => sum_any v L wr hv HS2.out (fun x hx' => by have := HSB.out x hx'; omega))
   obtain ⟨_, _, rfl, _⟩ := HIN.out.open
   have HX := Lib.hid hx
   have HM := Lib.hid (HSM.out _ HIN.out)
   rw [HTR.out] at HM
   clear hown hx HSM hkl hke y4 y5
   go_wp2_with (go_at_call 69; refine HM.out.mono ?_; rintro e w2 ⟨rfl, rfl⟩)
   go_ret
   exact ⟨rfl, HX0.out.trans HX.out⟩
end Go.Proofs.YtokananogogjaaaGreatDoor
