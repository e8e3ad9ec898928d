/- A book with one entry more (the law's told); OrderMore. -/
import Derived.Test.YtpebafaigldldaaGreatDoorOkn
import Derived.Test.YtpebafaigldldaaGreatDoorRbk
import Derived.Test.YtpebafaigldldaaGreatDoorOql
namespace Go.Proofs.YtpebafaigldldaaGreatDoor
open Go.RowKit
theorem RowAt.touch {M : Nat → Prop} {A B : World} {v : Value} {n : Nat} {cs : List Value} (h : RowAt A v n cs) (k : Touch M A B) (hM : ∀ b o len cap, v = .slice (some ⟨b, o, none⟩) len cap → ¬ M b) : RowAt B v n cs := by
 obtain ⟨a, c, rfl, h1, h2, h3, h4⟩ := h
 refine ⟨a, c, rfl, h1, h2, h3, fun j u hj => ?_⟩
 obtain ⟨b, o, ha, hc⟩ := h4 j u hj
 exact ⟨b, o, ha, k.cell hc (by subst ha; exact hM b o _ _ rfl)⟩
theorem ent_len : ∀ xs : List (Int × Int × Int), (xs.flatMap entryC).length = xs.length * 3
 | [] => rfl
 | x :: xs => by rw [List.flatMap_cons, List.length_append, ent_len xs]; simp [entryC]; omega
theorem ent_one (xs : List (Int × Int × Int)) : ∀ u, u ∈ xs.flatMap entryC → u.oneCell' = true := fun u hu => by
 obtain ⟨x, _, h⟩ := List.mem_flatMap.1 hu
 simp [entryC] at h
 rcases h with rfl | rfl | rfl <;> rfl
theorem cells4 {W : World} {k : Nat} {z0 z1 z2 z3 : Value} {t : TypeId} (h : W.heap[k]? = some (.cells #[z0, z1, z2, z3] t)) : (W.cell? ⟨k, 0, none⟩ = some z0 ∧ W.cell? ⟨k, 1, none⟩ = some z1 ∧ W.cell? ⟨k, 2, none⟩ = some z2 ∧ W.cell? ⟨k, 3, none⟩ = some z3) ∧ (W.frozen? ⟨k, 0, none⟩ = false ∧ W.frozen? ⟨k, 1, none⟩ = false ∧ W.frozen? ⟨k, 2, none⟩ = false ∧ W.frozen? ⟨k, 3, none⟩ = false) := by
 unfold World.cell? World.frozen?
 simp only [h]
 simp
theorem ext_block' {w w' : World} {B : Nat} {o : Obj} (h : Ext w w') (zb : w.heap[B]? = some o) : w'.heap[B]? = some o := (h.block (Array.getElem?_eq_some_iff.1 zb).1).trans zb
abbrev zeroBook : Obj := .cells #[.slice none 0 0, .int .i64 0, .int .i64 0, .slice none 0 0] 25
def ToldRes (b : Book) (x : Int × Int × Int) (w : World) (en : Ending) (w' : World) : Prop := ∃ ga gc ea ec, en = .returned (.agg #[.slice ga b.goods.length gc, .int .i64 b.editions, .int .i64 b.moves, .slice ea (b.entries.length + 1) ec]) ∧ Ext w w' ∧
 IntsAt w' (.slice ga b.goods.length gc) b.goods ∧ RowOf entryC w' (.slice ea (b.entries.length + 1) ec) (b.entries ++ [x])
set_option maxRecDepth 100000 in
set_option maxHeartbeats 4000000 in
theorem told_any (v : Value) (b : Book) (e n g : Int) (w : World) (hb : BookAt w v b) (hl : b.entries.length ≤ 1000) :
 Calls Tryz.prog 39 #[v, .int .i64 e, .int .i64 n, .int .i64 g] w (ToldRes b (e, n, g) w) := by
 obtain ⟨gv, ev, rfl, hg, he⟩ := hb
 obtain ⟨ga, gc, rfl, g1, g2, -⟩ := hg.open
 obtain ⟨ea, ec, rfl, e1, e2, -⟩ := RowAt.open he
 obtain ⟨W, hW⟩ : ∃ W, W = ((w.alloc (bookBox (.slice ga b.goods.length gc) b (.slice ea b.entries.length ec))).alloc zeroBook).alloc (bookBox (.slice ga b.goods.length gc) b (.slice ea b.entries.length ec)) := ⟨_, rfl⟩
 have hx0 : Ext w W := by rw [hW]; exact (((Ext.refl w).alloc _).alloc _).alloc _
 have hsz : W.heap.size = w.heap.size + 3 := by rw [hW]; simp
 have hb4 : W.heap[w.heap.size + 1]? = some zeroBook := by
  rw [hW]; have h := World.alloc_heap_new (w.alloc (bookBox (.slice ga b.goods.length gc) b (.slice ea b.entries.length ec))) zeroBook
  rw [World.size_alloc] at h
  exact (((Ext.refl _).alloc _).block (by simp)).trans h
 have HB0 := Lib.hid (show BoxAt W w.heap.size (.slice ga b.goods.length gc) b (.slice ea b.entries.length ec) by rw [hW]; exact (BoxAt.new _ _ _ _).ext (((Ext.refl _).alloc _).alloc _))
 have hb9 : W.heap[w.heap.size + 1 + 1]? = some (bookBox (.slice ga b.goods.length gc) b (.slice ea b.entries.length ec)) := by
  rw [hW]; have h := World.alloc_heap_new ((w.alloc (bookBox (.slice ga b.goods.length gc) b (.slice ea b.entries.length ec))).alloc zeroBook) (bookBox (.slice ga b.goods.length gc) b (.slice ea b.entries.length ec))
  rwa [World.size_alloc, World.size_alloc] at h
 have HG := Lib.hid hg
 have HEW := Lib.hid (RowAt.ext he hx0)
 have HX0 := Lib.hid hx0
 have HSZ := Lib.hid hsz
 obtain ⟨b0, b1, b2, b3⟩ := HB0.out
 clear hg he
 go_enter Tryz.func39, Tryz.ntmps39
 go_upto_region 2 with fail
 rw [← hW]
 clear hW hx0
 go_upto_region 3 with (first
  | (at_builtin; refine wpList_append_row E_entries rfl _ _ rfl W.heap.size rfl (World.ownsRow_nil _ _ _ _) rfl HEW.out (ent_len _) (ent_one _) ?_ (by unfold maxLen; omega) (by omega) (Nat.le_refl _); intro v1 w1 hown1 hgrow1 _; have hx1 : Ext W w1 := Ext.grown (Ext.refl W) hgrow1 (fun k hk => by cases hk); clear hgrow1; simp only [Nat.zero_add, List.nil_append] at hown1; have HO1 := Lib.hid hown1; have HX1 := Lib.hid hx1; clear hown1 b0 b1 b2 b3)
  | (at_builtin; refine wpList_push E_entries rfl _ _ rfl W.heap.size rfl HO1.out rfl rfl (by simp [Value.oneCell']) ?_ (by unfold maxLen; omega) (by omega) (by have := HX1.out.size; omega); intro g2 cap2 w2 hown2 hext2 _; have hx2 := hext2 W HX1.out (Nat.le_refl _); clear hext2; obtain ⟨⟨y0, y1, y2, y3⟩, z0, z1, z2, z3⟩ := cells4 (ext_block' hx2 hb9); obtain ⟨⟨u0, u1, u2, u3⟩, v0, v1, v2, v3⟩ := cells4 (ext_block' hx2 hb4); have HZ4 := Lib.hid (ext_block' hx2 hb4))
 )
 clear hb4 hb9 HO1 HX1
 go_wp2
 try simp only [Exit.inBlock, Exit.then]
 have hz := fun x0 x1 x2 x3 x4 => heap_setCell_same _ (w.heap.size + 1) 3 _ _ x3 (heap_setCell_same _ (w.heap.size + 1) 2 _ _ x2 (heap_setCell_same _ (w.heap.size + 1) 1 _ _ x1 (heap_setCell_same _ (w.heap.size + 1) 0 _ _ x0 (((Touch.setCell (M := fun i => i = w.heap.size + 1 + 1) x4 rfl).keep _ _ (HZ4.out) (by omega)) : (w2.setCell ⟨w.heap.size + 1 + 1, 3, none⟩ x4).heap[w.heap.size + 1]? = _))))
 refine bodyPost_ret (results_cell_row rfl _ _ (w.heap.size + 1) _ _ _ _ rfl (hz _ _ _ _ _) Tryz.underlying25 rfl (by kernel_rfl)) rfl ?_
 have hT : ∀ x0 x1 x2 x3 x4 : Value, Touch (fun i => i = w.heap.size + 1 ∨ i = w.heap.size + 1 + 1) w2 (((((w2.setCell ⟨w.heap.size + 1 + 1, 3, none⟩ x4).setCell ⟨w.heap.size + 1, 0, none⟩ x0).setCell ⟨w.heap.size + 1, 1, none⟩ x1).setCell ⟨w.heap.size + 1, 2, none⟩ x2).setCell ⟨w.heap.size + 1, 3, none⟩ x3) := fun x0 x1 x2 x3 x4 =>
  ((((Touch.setCell _ (.inr rfl)).trans (Touch.setCell _ (.inl rfl))).trans (Touch.setCell _ (.inl rfl))).trans (Touch.setCell _ (.inl rfl))).trans (Touch.setCell _ (.inl rfl))
 have hx9 := fun x0 x1 x2 x3 x4 => Touch.ext (HX0.out.trans hx2) (hT x0 x1 x2 x3 x4) (by rintro i (rfl | rfl) <;> omega)
 have hg2 := owns_block hown2 g2 rfl
 have hs2 := HSZ.out
 refine ⟨ga, gc, some ⟨g2, 0, none⟩, cap2, rfl, hx9 _ _ _ _ _, HG.out.ext (hx9 _ _ _ _ _), ?_⟩
 have hR := (RowAt.of_owns hown2).touch (hT (.slice ga b.goods.length gc) (.int .i64 b.editions) (.int .i64 b.moves) (.slice (some ⟨g2, 0, none⟩) (b.entries.length + 1) cap2) (.slice (some ⟨g2, 0, none⟩) (b.entries.length + 1) cap2)) (fun bb o len cap h hm => by
  cases h
  rcases hm with h | h <;> omega)
 unfold RowOf
 rw [List.flatMap_append, List.length_append]
 exact hR
theorem nums_none {b : Book} {l : List Int} {w w' : World} {e : Ending} (h : NumsRes b true l w e w') (hz : askErr b true = 7) : e = .returned (.tuple #[.slice none 0 0, .int .i64 7]) ∧ Ext w w' := by
 rcases h.2 with ⟨_, r⟩ | ⟨r, _⟩
 ·exact ⟨by rw [r, hz], h.1⟩
 ·omega
theorem nums_some {b : Book} {l : List Int} {w w' : World} {e : Ending} (h : NumsRes b true l w e w') (hz : askErr b true = 0) : ∃ a c, e = .returned (.tuple #[.slice a l.length c, .int .i64 0]) ∧ IntsAt w' (.slice a l.length c) l ∧ Ext w w' := by
 rcases h.2 with ⟨r, _⟩ | ⟨_, u, h1, h2⟩
 ·exact absurd hz r
 ·obtain ⟨a, c, rfl, _⟩ := h2.open
  exact ⟨a, c, h1, h2, h.1⟩
theorem truths_none {b : Book} {w w' : World} {e : Ending} (h : TruthsRes b w e w') (hz : askErr b true = 7) : e = .returned (.tuple #[.int .i64 0, .int .i64 7]) ∧ Ext w w' := by
 rcases h.2 with ⟨_, r⟩ | ⟨r, _⟩
 ·exact ⟨by rw [r, hz], h.1⟩
 ·omega
theorem truths_some {b : Book} {w w' : World} {e : Ending} (h : TruthsRes b w e w') (hz : askErr b true = 0) : e = .returned (.tuple #[.int .i64 (truthsB b), .int .i64 0]) ∧ Ext w w' := by
 rcases h.2 with ⟨r, _⟩ | ⟨_, r⟩
 ·exact absurd hz r
 ·exact ⟨r, h.1⟩
theorem askErr_two {b : Book} (h : isBookB b = true) : askErr b true = 0 ∨ askErr b true = 7 := by
 unfold askErr
 rw [h]
 simp only [Bool.and_self, if_true]
 split
 ·exact .inr rfl
 ·exact .inl rfl
theorem listed_mem {l : List Int} {n : Int} : listedB l n = true ↔ n ∈ l := by
 unfold listedB
 rw [List.any_eq_true]
 constructor
 ·rintro ⟨x, hx, e⟩; rw [← beq_iff_eq.1 e]; exact hx
 ·exact fun h => ⟨n, h, by simp⟩
theorem more_err {b : Book} {x : Int × Int × Int} {m : Int} (hm : m ≤ b.moves) (h1 : isBookB b = true) (h2 : isBookB (moreB b x m) = true) (hz : askErr (moreB b x m) true = 0) : askErr b true = 0 := by
 unfold askErr at hz ⊢
 rw [h1]
 rw [h2] at hz
 simp only [Bool.and_self, if_true] at hz ⊢
 by_cases hp : (pageB b 0).isEmpty = true
 ·exfalso
  have : pageB (moreB b x m) 0 = [] := by
   cases hq : pageB (moreB b x m) 0 with
   | nil => rfl
   | cons l r =>
    have := more_page (b := b) (x := x) hm (e := 0) (l := l) (by rw [hq]; simp)
    rw [List.isEmpty_iff.1 hp] at this
    cases this
  rw [this] at hz
  simp at hz
 ·rw [if_neg hp]
set_option maxRecDepth 100000 in
set_option maxHeartbeats 16000000 in
theorem orderMore_any (v : Value) (b : Book) (xv : Value) (x : Int × Int × Int) (moves edition number : Int) (w : World) (hb : BookAt w v b) (hxv : xv = .agg #[.int .i64 x.1, .int .i64 x.2.1, .int .i64 x.2.2]) (ht : TabOk w) (hm : MaxOk w) :
  Calls Tryz.prog 8 #[v, xv, .int .i64 moves, .int .i64 edition, .int .i64 number] w fun e w' => e = .returned (.bool true) ∧ Ext w w' := by
 subst hxv
 obtain ⟨ga, gc, ea, ec, rfl, hgl, hel⟩ := hb.open
 obtain ⟨W, HW⟩ : ∃ W, Hid (W = (w.alloc (bookBox (.slice ga b.goods.length gc) b (.slice ea b.entries.length ec))).alloc (.cells #[.int .i64 x.1, .int .i64 x.2.1, .int .i64 x.2.2] 72)) := ⟨_, rfl⟩
 have HX0 := Lib.hid (show Ext w W by rw [HW.out]; exact ((Ext.refl w).alloc _).alloc _)
 have hent : W.heap[w.heap.size + 1]? = some (.cells #[.int .i64 x.1, .int .i64 x.2.1, .int .i64 x.2.2] 72) := by
  rw [HW.out]; have h := World.alloc_heap_new (w.alloc (bookBox (.slice ga b.goods.length gc) b (.slice ea b.entries.length ec))) (.cells #[.int .i64 x.1, .int .i64 x.2.1, .int .i64 x.2.2] 72)
  rwa [World.size_alloc] at h
 have HF := Lib.hid (fun W1 (h : Ext W W1) => (⟨(cells3 (ext_block' h hent)).1.1, (cells3 (ext_block' h hent)).1.2.1, (cells3 (ext_block' h hent)).1.2.2, BoxAt.ext (show BoxAt W w.heap.size (.slice ga b.goods.length gc) b (.slice ea b.entries.length ec) by rw [HW.out]; exact (BoxAt.new _ _ _ _).ext ((Ext.refl _).alloc _)) h⟩ : _ ∧ _ ∧ _ ∧ BoxAt W1 w.heap.size (.slice ga b.goods.length gc) b (.slice ea b.entries.length ec)))
 have HKN := Lib.hid (fun W1 (h : Ext W W1) => lknown_any W1 (ht.ext (HX0.out.trans h)) (hm.ext (HX0.out.trans h)))
 have HBA := Lib.hid (fun W1 (h : Ext W W1) => hb.ext (HX0.out.trans h))
 have HSH := Lib.hid (fun W1 (h : Ext W W1) => short_any _ b W1 (HBA.out W1 h))
 have HBK := Lib.hid (fun W1 (h : Ext W W1) => rbook_any _ b W1 (HBA.out W1 h))
 have HED := Lib.hid (fun W1 (_ : Ext W W1) => redition_any ga ea b.goods.length gc b.entries.length ec b edition W1)
 have HGN := Lib.hid (fun W1 (_ : Ext W W1) => rgood_any ga ea gc b.entries.length ec b number W1 hgl)
 clear hb ht hm hent
 go_enter Tryz.func8, Tryz.ntmps8
 go_upto_region 1 with fail
 rw [← HW.out]
 have hq := Ext.refl W
 obtain ⟨m0, m1, m2, b0, b1, b2, b3⟩ := HF.out _ hq
 cases i0 : shortB b with
 | false =>
  rw [i0] at HSH
  clear i0
  go_wp2_with (first | (go_at_call 14; refine (HSH.out _ hq).mono ?_; rintro e w' ⟨rfl, hx⟩; clear HSH; have hq := hq.trans hx; clear hx; obtain ⟨m0, m1, m2, b0, b1, b2, b3⟩ := HF.out _ hq) | (go_at_call 15; refine (HKN.out _ hq).mono ?_; rintro e w' ⟨rfl, hx⟩; clear HKN; have hq := hq.trans hx; clear hx; obtain ⟨m0, m1, m2, b0, b1, b2, b3⟩ := HF.out _ hq))
  go_ret
  exact ⟨rfl, HX0.out.trans hq⟩
 | true =>
 rw [i0] at HSH
 cases i1 : isBookB b with
 | false =>
  rw [i1] at HBK
  clear i0 i1
  go_wp2_with (first | (go_at_call 14; refine (HSH.out _ hq).mono ?_; rintro e w' ⟨rfl, hx⟩; clear HSH; have hq := hq.trans hx; clear hx; obtain ⟨m0, m1, m2, b0, b1, b2, b3⟩ := HF.out _ hq) | (go_at_call 21; refine (HBK.out _ hq).mono ?_; rintro e w' ⟨rfl, hx⟩; clear HBK; have hq := hq.trans hx; clear hx; obtain ⟨m0, m1, m2, b0, b1, b2, b3⟩ := HF.out _ hq) | (go_at_call 15; refine (HKN.out _ hq).mono ?_; rintro e w' ⟨rfl, hx⟩; clear HKN; have hq := hq.trans hx; clear hx; obtain ⟨m0, m1, m2, b0, b1, b2, b3⟩ := HF.out _ hq))
  go_ret
  exact ⟨rfl, HX0.out.trans hq⟩
 | true =>
 rw [i1] at HBK
 by_cases i2 : moves < 0
 ·have t1 : decide (moves < 0) = true := by simpa using i2
  clear i0 i1 i2
  go_wp2_with (first | (go_at_call 14; refine (HSH.out _ hq).mono ?_; rintro e w' ⟨rfl, hx⟩; clear HSH; have hq := hq.trans hx; clear hx; obtain ⟨m0, m1, m2, b0, b1, b2, b3⟩ := HF.out _ hq) | (go_at_call 21; refine (HBK.out _ hq).mono ?_; rintro e w' ⟨rfl, hx⟩; clear HBK; have hq := hq.trans hx; clear hx; obtain ⟨m0, m1, m2, b0, b1, b2, b3⟩ := HF.out _ hq) | (go_at_call 15; refine (HKN.out _ hq).mono ?_; rintro e w' ⟨rfl, hx⟩; clear HKN; have hq := hq.trans hx; clear hx; obtain ⟨m0, m1, m2, b0, b1, b2, b3⟩ := HF.out _ hq))
  go_ret
  exact ⟨rfl, HX0.out.trans hq⟩
 have t1 : decide (moves < 0) = false := by simpa using i2
 by_cases i3 : b.moves < moves
 ·have t2 : decide (b.moves < moves) = true := by simpa using i3
  clear i0 i1 i2 i3
  go_wp2_with (first | (go_at_call 14; refine (HSH.out _ hq).mono ?_; rintro e w' ⟨rfl, hx⟩; clear HSH; have hq := hq.trans hx; clear hx; obtain ⟨m0, m1, m2, b0, b1, b2, b3⟩ := HF.out _ hq) | (go_at_call 21; refine (HBK.out _ hq).mono ?_; rintro e w' ⟨rfl, hx⟩; clear HBK; have hq := hq.trans hx; clear hx; obtain ⟨m0, m1, m2, b0, b1, b2, b3⟩ := HF.out _ hq) | (go_at_call 15; refine (HKN.out _ hq).mono ?_; rintro e w' ⟨rfl, hx⟩; clear HKN; have hq := hq.trans hx; clear hx; obtain ⟨m0, m1, m2, b0, b1, b2, b3⟩ := HF.out _ hq))
  go_ret
  exact ⟨rfl, HX0.out.trans hq⟩
 have t2 : decide (b.moves < moves) = false := by simpa using i3
 cases i4 : isEditionW b edition with
 | false =>
  rw [i4] at HED
  clear i0 i1 i2 i3 i4
  go_wp2_with (first | (go_at_call 14; refine (HSH.out _ hq).mono ?_; rintro e w' ⟨rfl, hx⟩; clear HSH; have hq := hq.trans hx; clear hx; obtain ⟨m0, m1, m2, b0, b1, b2, b3⟩ := HF.out _ hq) | (go_at_call 21; refine (HBK.out _ hq).mono ?_; rintro e w' ⟨rfl, hx⟩; clear HBK; have hq := hq.trans hx; clear hx; obtain ⟨m0, m1, m2, b0, b1, b2, b3⟩ := HF.out _ hq) | (go_at_call 22; refine (HED.out _ hq).mono ?_; rintro e w' ⟨rfl, hx⟩; clear HED; have hq := hq.trans hx; clear hx; obtain ⟨m0, m1, m2, b0, b1, b2, b3⟩ := HF.out _ hq) | (go_at_call 15; refine (HKN.out _ hq).mono ?_; rintro e w' ⟨rfl, hx⟩; clear HKN; have hq := hq.trans hx; clear hx; obtain ⟨m0, m1, m2, b0, b1, b2, b3⟩ := HF.out _ hq))
  go_ret
  exact ⟨rfl, HX0.out.trans hq⟩
 | true =>
 rw [i4] at HED
 cases i5 : isNumberB b number with
 | false =>
  rw [i5] at HGN
  clear i0 i1 i2 i3 i4 i5
  go_wp2_with (first | (go_at_call 14; refine (HSH.out _ hq).mono ?_; rintro e w' ⟨rfl, hx⟩; clear HSH; have hq := hq.trans hx; clear hx; obtain ⟨m0, m1, m2, b0, b1, b2, b3⟩ := HF.out _ hq) | (go_at_call 21; refine (HBK.out _ hq).mono ?_; rintro e w' ⟨rfl, hx⟩; clear HBK; have hq := hq.trans hx; clear hx; obtain ⟨m0, m1, m2, b0, b1, b2, b3⟩ := HF.out _ hq) | (go_at_call 22; refine (HED.out _ hq).mono ?_; rintro e w' ⟨rfl, hx⟩; clear HED; have hq := hq.trans hx; clear hx; obtain ⟨m0, m1, m2, b0, b1, b2, b3⟩ := HF.out _ hq) | (go_at_call 23; refine (HGN.out _ hq).mono ?_; rintro e w' ⟨rfl, hx⟩; clear HGN; have hq := hq.trans hx; clear hx; obtain ⟨m0, m1, m2, b0, b1, b2, b3⟩ := HF.out _ hq) | (go_at_call 15; refine (HKN.out _ hq).mono ?_; rintro e w' ⟨rfl, hx⟩; clear HKN; have hq := hq.trans hx; clear hx; obtain ⟨m0, m1, m2, b0, b1, b2, b3⟩ := HF.out _ hq))
  go_ret
  exact ⟨rfl, HX0.out.trans hq⟩
 | true =>
 rw [i5] at HGN
 have hB := bookB_of i1
 have HTO := Lib.hid (fun W1 (h : Ext W W1) => told_any _ b x.1 x.2.1 x.2.2 W1 (HBA.out W1 h) (by have := hB.n8; omega))
 have HMV := Lib.hid (show moves ≤ b.moves by omega)
 have HI := Lib.hid (And.intro i1 (And.intro i4 i5))
 have hed := editionW hB edition
 rw [i4] at hed
 have HEDG := Lib.hid hed
 clear hB i0 i1 i2 i3 i4 i5 hed
 go_upto_region 4 with (first | (go_at_call 14; refine (HSH.out _ hq).mono ?_; rintro e w' ⟨rfl, hx⟩; clear HSH; have hq := hq.trans hx; clear hx; obtain ⟨m0, m1, m2, b0, b1, b2, b3⟩ := HF.out _ hq) | (go_at_call 21; refine (HBK.out _ hq).mono ?_; rintro e w' ⟨rfl, hx⟩; clear HBK; have hq := hq.trans hx; clear hx; obtain ⟨m0, m1, m2, b0, b1, b2, b3⟩ := HF.out _ hq) | (go_at_call 22; refine (HED.out _ hq).mono ?_; rintro e w' ⟨rfl, hx⟩; clear HED; have hq := hq.trans hx; clear hx; obtain ⟨m0, m1, m2, b0, b1, b2, b3⟩ := HF.out _ hq) | (go_at_call 23; refine (HGN.out _ hq).mono ?_; rintro e w' ⟨rfl, hx⟩; clear HGN; have hq := hq.trans hx; clear hx; obtain ⟨m0, m1, m2, b0, b1, b2, b3⟩ := HF.out _ hq) | (go_at_call 39; refine (HTO.out _ hq).mono ?_; rintro e w3 ⟨ta, tc, sa, sc, rfl, hx, hti, hte⟩; clear HTO; have hq := hq.trans hx; clear hx))
 have HTI := Lib.hid hti
 have HTE := Lib.hid hte
 clear hti hte
 obtain ⟨W4, hW4⟩ : ∃ W4, W4 = w3.alloc (.cells #[.slice ta b.goods.length tc, .int .i64 b.editions, .int .i64 b.moves, .slice sa (b.entries.length + 1) sc] 25) := ⟨_, rfl⟩
 have hb4 : W4.heap[w3.heap.size]? = some (.cells #[.slice ta b.goods.length tc, .int .i64 b.editions, .int .i64 b.moves, .slice sa (b.entries.length + 1) sc] 25) := by rw [hW4]; exact World.alloc_heap_new _ _
 have hx4 : Ext w3 W4 := by rw [hW4]; exact (Ext.refl w3).alloc _
 rw [← hW4]
 clear hW4 m0 m1 m2 b0 b1 b2 b3
 obtain ⟨⟨y0, y1, y2, y3⟩, z0, z1, z2, z3⟩ := cells4 hb4
 go_upto_region 5 with fail
 obtain ⟨W5, hW5⟩ : ∃ W5, W5 = W4.setCell ⟨w3.heap.size, 2, none⟩ (.int .i64 moves) := ⟨_, rfl⟩
 have hb5 : W5.heap[w3.heap.size]? = some (.cells #[.slice ta b.goods.length tc, .int .i64 b.editions, .int .i64 moves, .slice sa (b.entries.length + 1) sc] 25) := by rw [hW5]; exact heap_setCell_same W4 w3.heap.size 2 _ _ _ hb4
 have hx5 : Ext w3 W5 := by rw [hW5]; exact hx4.setCell (p := ⟨w3.heap.size, 2, none⟩) (Nat.le_refl _) _
 rw [← hW5]
 clear hW5 y0 y1 y2 y3 z0 z1 z2 z3 hx4 hb4
 have HQ5 := Lib.hid (hq.trans hx5)
 have HBX := Lib.hid (show BookAt W5 (.agg #[.slice ta b.goods.length tc, .int .i64 b.editions, .int .i64 moves, .slice sa (b.entries.length + 1) sc]) (moreB b x moves) from ⟨_, _, rfl, HTI.out.ext hx5, RowAt.ext HTE.out hx5⟩)
 have HF5 := Lib.hid (fun W1 (h : Ext W5 W1) => (⟨(cells4 (ext_block' h hb5)).1.1, (cells4 (ext_block' h hb5)).1.2.1, (cells4 (ext_block' h hb5)).1.2.2.1, (cells4 (ext_block' h hb5)).1.2.2.2, (HF.out _ (HQ5.out.trans h)).2.2.2⟩ : _ ∧ _ ∧ _ ∧ _ ∧ BoxAt W1 w.heap.size (.slice ga b.goods.length gc) b (.slice ea b.entries.length ec)))
 replace HKN := Lib.hid (fun W1 (h : Ext W5 W1) => HKN.out W1 (HQ5.out.trans h))
 replace HBA := Lib.hid (fun W1 (h : Ext W5 W1) => HBA.out W1 (HQ5.out.trans h))
 have HBXE := Lib.hid (fun W1 (h : Ext W5 W1) => HBX.out.ext h)
 have HBK2 := Lib.hid (fun W1 (h : Ext W5 W1) => rbook_any _ (moreB b x moves) W1 (HBXE.out W1 h))
 clear hq hx5 hb5 HTI HTE HBX HF
 have hq := Ext.refl W5
 obtain ⟨y0, y1, y2, y3, b0, b1, b2, b3⟩ := HF5.out _ hq
 cases i6 : isBookB (moreB b x moves) with
 | false =>
  rw [i6] at HBK2
  clear i6
  go_wp2_with (first | (go_at_call 21; refine (HBK2.out _ hq).mono ?_; rintro e w' ⟨rfl, hx⟩; clear HBK2; have hq := hq.trans hx; clear hx; obtain ⟨y0, y1, y2, y3, b0, b1, b2, b3⟩ := HF5.out _ hq) | (go_at_call 15; refine (HKN.out _ hq).mono ?_; rintro e w' ⟨rfl, hx⟩; clear HKN; have hq := hq.trans hx; clear hx; obtain ⟨y0, y1, y2, y3, b0, b1, b2, b3⟩ := HF5.out _ hq))
  go_ret
  exact ⟨rfl, HX0.out.trans (HQ5.out.trans hq)⟩
 | true =>
 rw [i6] at HBK2
 have HM1 := Lib.hid (fun W1 (h : Ext W5 W1) => means_any _ b edition number W1 (HBA.out W1 h))
 have HM2 := Lib.hid (fun W1 (h : Ext W5 W1) => means_any _ (moreB b x moves) edition number W1 (HBXE.out W1 h))
 have HT1 := Lib.hid (fun W1 (h : Ext W5 W1) => Truths_any _ b W1 (HBA.out W1 h))
 have HT2 := Lib.hid (fun W1 (h : Ext W5 W1) => Truths_any _ (moreB b x moves) W1 (HBXE.out W1 h))
 obtain ⟨j1, j4, j5⟩ := HI.out
 have hfx : (isEditionW (moreB b x moves) edition && isNumberB (moreB b x moves) number) = true := show (isEditionW b edition && isNumberB b number) = true by rw [j4, j5]; rfl
 rw [j4, j5] at HM1
 rw [hfx] at HM2
 have hers := more_err HMV.out j1 i6
 have hza := askErr_two j1
 have hzx := askErr_two i6
 clear j4 j5 hfx i6
 rcases hzx with zx | zx
 rotate_left
 ·replace HM2 := Lib.hid (fun W1 (h : Ext W5 W1) => (HM2.out W1 h).mono (fun e w' q => nums_none (show NumsRes (moreB b x moves) true _ W1 e w' from q) zx))
  replace HT2 := Lib.hid (fun W1 (h : Ext W5 W1) => (HT2.out W1 h).mono (fun e w' q => truths_none (show TruthsRes (moreB b x moves) W1 e w' from q) zx))
  rcases hza with za | za
  ·replace HM1 := Lib.hid (fun W1 (h : Ext W5 W1) => (HM1.out W1 h).mono (fun e w' q => nums_some (show NumsRes b true _ W1 e w' from q) za))
   replace HT1 := Lib.hid (fun W1 (h : Ext W5 W1) => (HT1.out W1 h).mono (fun e w' q => truths_some (show TruthsRes b W1 e w' from q) za))
   generalize meansB b edition.toNat number = M at *
   generalize truthsB b = T at *
   clear zx za hers j1
   go_wp2_with (first | (go_at_call 21; refine (HBK2.out _ hq).mono ?_; rintro e w' ⟨rfl, hx⟩; clear HBK2; have hq := hq.trans hx; clear hx; obtain ⟨y0, y1, y2, y3, b0, b1, b2, b3⟩ := HF5.out _ hq) | (go_at_call 40; refine (HM1.out _ hq).mono ?_; rintro e w' ⟨A1, A2, rfl, hA, hx⟩; clear HM1; have hq := hq.trans hx; clear hx; obtain ⟨y0, y1, y2, y3, b0, b1, b2, b3⟩ := HF5.out _ hq) | (go_at_call 40; refine (HM2.out _ hq).mono ?_; rintro e w' ⟨rfl, hx⟩; clear HM2; have hq := hq.trans hx; clear hx; obtain ⟨y0, y1, y2, y3, b0, b1, b2, b3⟩ := HF5.out _ hq) | (go_at_call 16; refine (HT1.out _ hq).mono ?_; rintro e w' ⟨rfl, hx⟩; clear HT1; have hq := hq.trans hx; clear hx; obtain ⟨y0, y1, y2, y3, b0, b1, b2, b3⟩ := HF5.out _ hq) | (go_at_call 16; refine (HT2.out _ hq).mono ?_; rintro e w' ⟨rfl, hx⟩; clear HT2; have hq := hq.trans hx; clear hx; obtain ⟨y0, y1, y2, y3, b0, b1, b2, b3⟩ := HF5.out _ hq) | (go_at_call 15; refine (HKN.out _ hq).mono ?_; rintro e w' ⟨rfl, hx⟩; clear HKN; have hq := hq.trans hx; clear hx; obtain ⟨y0, y1, y2, y3, b0, b1, b2, b3⟩ := HF5.out _ hq))
   go_ret
   exact ⟨rfl, HX0.out.trans (HQ5.out.trans hq)⟩
  ·replace HM1 := Lib.hid (fun W1 (h : Ext W5 W1) => (HM1.out W1 h).mono (fun e w' q => nums_none (show NumsRes b true _ W1 e w' from q) za))
   replace HT1 := Lib.hid (fun W1 (h : Ext W5 W1) => (HT1.out W1 h).mono (fun e w' q => truths_none (show TruthsRes b W1 e w' from q) za))
   clear zx za hers j1
   go_wp2_with (first | (go_at_call 21; refine (HBK2.out _ hq).mono ?_; rintro e w' ⟨rfl, hx⟩; clear HBK2; have hq := hq.trans hx; clear hx; obtain ⟨y0, y1, y2, y3, b0, b1, b2, b3⟩ := HF5.out _ hq) | (go_at_call 40; refine (HM1.out _ hq).mono ?_; rintro e w' ⟨rfl, hx⟩; clear HM1; have hq := hq.trans hx; clear hx; obtain ⟨y0, y1, y2, y3, b0, b1, b2, b3⟩ := HF5.out _ hq) | (go_at_call 40; refine (HM2.out _ hq).mono ?_; rintro e w' ⟨rfl, hx⟩; clear HM2; have hq := hq.trans hx; clear hx; obtain ⟨y0, y1, y2, y3, b0, b1, b2, b3⟩ := HF5.out _ hq) | (go_at_call 16; refine (HT1.out _ hq).mono ?_; rintro e w' ⟨rfl, hx⟩; clear HT1; have hq := hq.trans hx; clear hx; obtain ⟨y0, y1, y2, y3, b0, b1, b2, b3⟩ := HF5.out _ hq) | (go_at_call 16; refine (HT2.out _ hq).mono ?_; rintro e w' ⟨rfl, hx⟩; clear HT2; have hq := hq.trans hx; clear hx; obtain ⟨y0, y1, y2, y3, b0, b1, b2, b3⟩ := HF5.out _ hq) | (go_at_call 15; refine (HKN.out _ hq).mono ?_; rintro e w' ⟨rfl, hx⟩; clear HKN; have hq := hq.trans hx; clear hx; obtain ⟨y0, y1, y2, y3, b0, b1, b2, b3⟩ := HF5.out _ hq))
   go_ret
   exact ⟨rfl, HX0.out.trans (HQ5.out.trans hq)⟩
 have za := hers zx
 replace HM1 := Lib.hid (fun W1 (h : Ext W5 W1) => (HM1.out W1 h).mono (fun e w' q => nums_some (show NumsRes b true _ W1 e w' from q) za))
 replace HT1 := Lib.hid (fun W1 (h : Ext W5 W1) => (HT1.out W1 h).mono (fun e w' q => truths_some (show TruthsRes b W1 e w' from q) za))
 replace HM2 := Lib.hid (fun W1 (h : Ext W5 W1) => (HM2.out W1 h).mono (fun e w' q => nums_some (show NumsRes (moreB b x moves) true _ W1 e w' from q) zx))
 replace HT2 := Lib.hid (fun W1 (h : Ext W5 W1) => (HT2.out W1 h).mono (fun e w' q => truths_some (show TruthsRes (moreB b x moves) W1 e w' from q) zx))
 have hB := bookB_of j1
 obtain ⟨u0, u1⟩ := inB_iff.1 HI.out.2.2
 have HSUB := Lib.hid (fun y (hy : y ∈ meansB (moreB b x moves) edition.toNat number) => listed_mem.2 (more_means (x := x) HMV.out hy))
 have HLEN := Lib.hid (more_len (x := x) HMV.out edition.toNat number)
 have HTLE := Lib.hid (more_truths (x := x) HMV.out)
 have HM9 := Lib.hid (show (meansB b edition.toNat number).length ≤ 5 from Nat.le_trans (means_len u0 (by omega)) hB.g5)
 generalize meansB b edition.toNat number = M at *
 generalize truthsB b = T at *
 generalize meansB (moreB b x moves) edition.toNat number = M2 at *
 generalize truthsB (moreB b x moves) = T2 at *
 clear zx za hers j1 hza hB u0 u1
 go_upto_region 15 with (first | (go_at_call 21; refine (HBK2.out _ hq).mono ?_; rintro e w' ⟨rfl, hx⟩; clear HBK2; have hq := hq.trans hx; clear hx; obtain ⟨y0, y1, y2, y3, b0, b1, b2, b3⟩ := HF5.out _ hq) | (go_at_call 40; refine (HM1.out _ hq).mono ?_; rintro e w' ⟨A1, A2, rfl, hA, hx⟩; clear HM1; have hq := hq.trans hx; clear hx; obtain ⟨y0, y1, y2, y3, b0, b1, b2, b3⟩ := HF5.out _ hq) | (go_at_call 40; refine (HM2.out _ hq).mono ?_; rintro e w' ⟨B1, B2, rfl, hB, hx⟩; clear HM2; have hq := hq.trans hx; have hA := hA.ext hx; clear hx; obtain ⟨y0, y1, y2, y3, b0, b1, b2, b3⟩ := HF5.out _ hq) | (go_at_call 16; refine (HT1.out _ hq).mono ?_; rintro e w' ⟨rfl, hx⟩; clear HT1; have hq := hq.trans hx; have hA := hA.ext hx; have hB := hB.ext hx; clear hx; obtain ⟨y0, y1, y2, y3, b0, b1, b2, b3⟩ := HF5.out _ hq) | (go_at_call 16; refine (HT2.out _ hq).mono ?_; rintro e w' ⟨rfl, hx⟩; clear HT2; have hq := hq.trans hx; have hA := hA.ext hx; have hB := hB.ext hx; clear hx; obtain ⟨y0, y1, y2, y3, b0, b1, b2, b3⟩ := HF5.out _ hq))
 have HL := Lib.hid (fun W1 (h : Ext w' W1) (n : Int) => llisted_any _ M n W1 (hA.ext h))
 obtain ⟨_, _, hve, _, _, hB3⟩ := hB.open
 cases hve
 have HB3 := Lib.hid hB3
 have HQ := Lib.hid (HX0.out.trans (HQ5.out.trans hq))
 replace HKN := Lib.hid (fun W1 (h : Ext w' W1) => HKN.out W1 (hq.trans h))
 clear hA hB hB3 hq y0 y1 y2 y3 b0 b1 b2 b3 HF5 HBA HBXE HI HQ5
 obtain ⟨wz, rfl⟩ : ∃ wz : World, wz = w' := ⟨_, rfl⟩
 go_wp2
 go_loopw [20] (fun i wr => ∃ k : Nat, k ≤ M2.length ∧ i = .int .i64 (k : Int) ∧ wz = wr) (fun i _ => M2.length - (intOf i).toNat)
 case atStart => exact ⟨0, Nat.zero_le _, rfl, rfl⟩
 case round =>
  obtain ⟨k, hk, rfl, rfl⟩ := hrel
  have hl := HLEN.out
  have h9 := HM9.out
  by_cases hlt : k < M2.length
  ·obtain ⟨bb, o, y, rfl, hyk, c0⟩ := HB3.out k hlt
   have k1 : (0 : Int) ≤ (k : Int) := by omega
   have k2 : (k : Int) < (M2.length : Int) := by omega
   have x1 : decide ((k : Int) < (M2.length : Int)) = true := by simpa using hlt
   have x2 : decide ((k : Int) < 9) = true := by simp; omega
   have HLY := Lib.hid (HL.out _ (Ext.refl _) y)
   rw [HSUB.out y (List.mem_of_getElem? hyk.out)] at HLY
   clear hyk hl h9
   go_wp2_with (go_at_call 41; refine HLY.out.mono ?_; rintro e w8 ⟨rfl, rfl⟩)
   go_roundw
   case rel => exact ⟨k + 1, by omega, by go_num, trivial⟩
   case measure => simp [intOf]; omega
  ·have x1 : decide ((k : Int) < (M2.length : Int)) = false := by simpa using hlt
   have x3 : decide ((M2.length : Int) ≤ (M.length : Int)) = true := by simp; omega
   have x4 : decide (T2 ≤ T) = true := by simpa using HTLE.out
   have HKZ := Lib.hid (HKN.out _ (Ext.refl _))
   clear hl h9
   go_wp2_with (go_at_call 15; refine HKZ.out.mono ?_; rintro e w8 ⟨rfl, hx8⟩)
   go_ret
   exact ⟨rfl, HQ.out.trans hx8⟩
end Go.Proofs.YtpebafaigldldaaGreatDoor
