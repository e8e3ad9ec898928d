/- What lies in memory while a book is opened. -/
import Derived.Test.YtokananogogjaaaGreatDoorOp
namespace Go.Proofs.YtokananogogjaaaGreatDoor
open Go.RowKit
def mark0 : Option Obj := some (Obj.deferred (some []))
def MarksAt (B : Nat) (ds : List Deferred) (W : World) : Prop := ∃ Ds : List Nat, ds = Ds.map (fun D => { target := .collected D, args := #[] }) ∧ (Ds.Nodup ∧ ∀ D : Nat, D ∈ Ds → B ≤ D) ∧ ∀ D : Nat, D ∈ Ds → W.heap[D]? = mark0
theorem MarksAt.nil (B : Nat) (W : World) : MarksAt B [] W := ⟨[], rfl, ⟨List.nodup_nil, fun D h => by simp at h⟩, fun D h => by simp at h⟩
theorem MarksAt.keep {B : Nat} {ds : List Deferred} {W W' : World} (h : MarksAt B ds W) (k : ∀ D : Nat, W.heap[D]? = mark0 → W'.heap[D]? = mark0) : MarksAt B ds W' := by
  obtain ⟨Ds, h1, h2, h3⟩ := h; exact ⟨Ds, h1, h2, fun D hD => k D (h3 D hD)⟩
theorem MarksAt.ext {B : Nat} {ds : List Deferred} {W W' : World} (h : MarksAt B ds W) (k : Ext W W') : MarksAt B ds W' := h.keep (fun _ hD => (k.block (Array.getElem?_eq_some_iff.1 hD).1).trans hD)
theorem MarksAt.setCell {B : Nat} {ds : List Deferred} {W : World} (h : MarksAt B ds W) {a : Addr} {u v : Value} (hc : W.cell? a = some u) : MarksAt B ds (W.setCell a v) :=
  h.keep (fun D hD => (Below.heap_setCell W a v D (fun e => by
    obtain ⟨o, ho, hi⟩ := cells_of_cell hc
    rw [← e, hD] at ho; cases ho; cases hi)).trans hD)
theorem marks_leave {F : Fence} {n : Nat} {P : Program} {fn : Func} {tmps : Array Value} {R : Ending → World → Prop} {B : Nat} : ∀ {ds : List Deferred} {W : World}, MarksAt B ds W →
    (∀ W', (∀ (k : Nat) (o : Obj), W.heap[k]? = some o → (k < B ∨ ∀ l, o ≠ .deferred l) → W'.heap[k]? = some o) → W'.os = W.os → W'.tape = W.tape → W'.output = W.output → W.heap.size ≤ W'.heap.size → LeavesIn F n P fn tmps R [] .returning W') → LeavesInM F n P fn tmps R ds .returning W := by
  intro ds
  induction ds with
  | nil => intro W _ h; exact h W (fun _ _ hk _ => hk) rfl rfl rfl (Nat.le_refl _)
  | cons d ds ih =>
    rintro W ⟨Ds, h1, h2, h3⟩ h
    cases Ds with
    | nil => simp at h1
    | cons D Ds =>
      simp only [List.map_cons, List.cons.injEq] at h1
      obtain ⟨rfl, rfl⟩ := h1
      have hD := h3 D (by simp)
      have hl := (Array.getElem?_eq_some_iff.1 hD).1
      refine ⟨by simp, .inl ⟨D, _, rfl, run_takeDeferred hD, ?_⟩⟩
      refine ih ⟨Ds, rfl, ⟨(List.nodup_cons.1 h2.1).2, fun E hE => h2.2 E (by simp [hE])⟩, fun E hE => ?_⟩ (fun W' hk a1 a2 a3 a4 => h W' (fun k o hko ho => hk k o ?_ ho) a1 a2 a3 (Nat.le_trans (by simp) a4))
      · rw [World.putObj_heap_other (fun e => by subst e; exact (List.nodup_cons.1 h2.1).1 hE)]; exact h3 E (by simp [hE])
      · rw [World.putObj_heap_other (fun e => by have hB := h2.2 D (by simp); rcases ho with ho | ho; exact absurd ho (by omega); exact ho (some []) (by rw [e, hD] at hko; cases hko; rfl))]; exact hko

theorem MarksAt.cons {B : Nat} {ds : List Deferred} {W W' : World} {D : Nat} (h : MarksAt B ds W) (hB : B ≤ W.heap.size) (k : ∀ D : Nat, W.heap[D]? = mark0 → W'.heap[D]? = mark0) (hD : W.heap.size ≤ D) (hd : W'.heap[D]? = mark0) : MarksAt B ({ target := .collected D, args := #[] } :: ds) W' := by
  obtain ⟨Ds, h1, h2, h3⟩ := h
  refine ⟨D :: Ds, by rw [h1]; rfl, ⟨List.nodup_cons.2 ⟨fun hm => ?_, h2.1⟩, fun E hE => ?_⟩, fun E hE => ?_⟩
  · have := (Array.getElem?_eq_some_iff.1 (h3 D hm)).1; omega
  · rcases List.mem_cons.1 hE with rfl | hE
    · omega
    · exact h2.2 E hE
  · rcases List.mem_cons.1 hE with rfl | hE
    · exact hd
    · exact k E (h3 E hE)
theorem ext_marks {w A B : World} (h : Ext w A) (hk : ∀ (k : Nat) (o : Obj), A.heap[k]? = some o → (k < w.heap.size ∨ ∀ l, o ≠ .deferred l) → B.heap[k]? = some o) (k1 : B.os = A.os) (k2 : B.tape = A.tape) (k3 : B.output = A.output) (k4 : A.heap.size ≤ B.heap.size) : Ext w B :=
  ⟨k1.trans (Below.os h), k2.trans (Below.tape h), k3.trans (Below.output h), Nat.le_trans h.size k4, fun i hi => by
    have hs := h.size
    obtain ⟨o, ho⟩ : ∃ o, A.heap[i]? = some o := ⟨_, Array.getElem?_eq_getElem (by omega)⟩
    rw [hk i o ho (.inl hi), ← ho]; exact Below.block h i hi⟩
theorem MarksAt.touch {B : Nat} {ds : List Deferred} {A A' : World} {D : Nat → Prop} (h : MarksAt B ds A) (k : Touch D A A') (hD : ∀ i o, D i → A.heap[i]? = some o → ∀ l, o ≠ .deferred l) : MarksAt B ds A' :=
 h.keep (fun d hd => k.keep d _ hd (fun hx => hD d _ hx hd _ rfl))
/-- A book that is being opened: e of its editions have their pages. -/
structure OpI (b : Book) (gv ev : Value) (w : World) (pv : Value) (vs : List Value) (iv : List (Nat × Nat)) (rows : List (List Pg)) (ds : List Deferred) (W : World) : Prop where
 ext : Ext w W
 box : BoxAt W w.heap.size gv b ev
 zb : W.heap[w.heap.size + 1]? = some (.cells #[.slice none 0 0, .int .i64 0, .int .i64 0, .slice none 0 0, .slice none 0 0] 95)
 obx : BoxAt W (w.heap.size + 2) gv b ev
 o4 : W.cell? ⟨w.heap.size + 2, 4, none⟩ = some pv
 f4 : W.frozen? ⟨w.heap.size + 2, 4, none⟩ = false
 own : W.ownsRow (w.heap.size + 3) 98 1 pv rows.length vs
 lv : vs.length = rows.length
 li : iv.length = rows.length
 row : ∀ (e : Nat) (v : Value) (i : Nat × Nat) (r : List Pg), vs[e]? = some v → iv[e]? = some i → rows[e]? = some r → PgRow W i.1 i.2 v r ∧ w.heap.size + 3 ≤ i.1 ∧ i.2 ≤ W.heap.size ∧ ∀ ob, pv.ownBlock = some ob → ob < i.1 ∨ i.2 ≤ ob
 apart : ∀ (e f : Nat) (i j : Nat × Nat), iv[e]? = some i → iv[f]? = some j → e < f → i.2 ≤ j.1
 spec : ∀ (e : Nat) (r : List Pg), rows[e]? = some r → r.map Pg.l = spB b e ∧ ∀ p, p ∈ r → p.bef = 1 ∧ p.aft = 1
 marks : MarksAt w.heap.size ds W
theorem snoc_at {α : Type} {l : List α} {x y : α} {i : Nat} (h : (l ++ [x])[i]? = some y) : (i < l.length ∧ l[i]? = some y) ∨ (i = l.length ∧ y = x) := by
 rcases Nat.lt_or_ge i l.length with hl | hl
 ·rw [List.getElem?_append_left hl] at h; exact .inl ⟨hl, h⟩
 ·rw [List.getElem?_append_right hl] at h
  have hi : i - l.length = 0 := by
   have := (List.getElem?_eq_some_iff.1 h).1
   simp at this; omega
  rw [hi] at h
  exact .inr ⟨by omega, by simpa using h.symm⟩
theorem BoxAt.touch {D : Nat → Prop} {A B : World} {k : Nat} {gv ev : Value} {b : Book} (h : BoxAt A k gv b ev) (t : Touch D A B) (hk : ¬ D k) : BoxAt B k gv b ev := ⟨t.cell h.1 hk, t.cell h.2.1 hk, t.cell h.2.2.1 hk, t.cell h.2.2.2 hk⟩
theorem OpI.next {b : Book} {gv ev pv lv : Value} {w Wr W w5 : World} {vs : List Value} {iv : List (Nat × Nat)} {rows : List (List Pg)} {ds : List Deferred} {r : List Pg} {D g cap : Nat} {e' : TypeId} (h : OpI b gv ev w pv vs iv rows ds Wr) (hx : Ext Wr W)
 (hrow : PgRow W (Wr.heap.size + 2) W.heap.size lv r) (hs1 : r.map Pg.l = spB b rows.length) (hs2 : ∀ p, p ∈ r → p.bef = 1 ∧ p.aft = 1) (hD : Wr.heap.size ≤ D) (hd : W.heap[D]? = mark0)
 (hown5 : w5.ownsRow (w.heap.size + 3) 98 1 (.slice (some ⟨g, 0, none⟩) (rows.length + 1) cap) (rows.length + 1) (vs ++ [lv])) (hg5 : (W.alloc (.cells #[lv] e')).grownBy w5 pv.ownBlock) (hloc : pv.ownBlock = some g ∨ g = W.heap.size + 1) :
 (w5.cell? ⟨w.heap.size + 2, 4, none⟩ = some pv ∧ w5.frozen? ⟨w.heap.size + 2, 4, none⟩ = false) ∧
 OpI b gv ev w (.slice (some ⟨g, 0, none⟩) (rows ++ [r]).length cap) (vs ++ [lv]) (iv ++ [(Wr.heap.size + 2, W.heap.size)]) (rows ++ [r]) ({ target := .collected D, args := #[] } :: ds) (w5.setCell ⟨w.heap.size + 2, 4, none⟩ (.slice (some ⟨g, 0, none⟩) (rows.length + 1) cap)) := by
 have hsz := hx.size
 have hpb : ∀ k, pv.ownBlock = some k → w.heap.size + 3 ≤ k ∧ k < Wr.heap.size := fun k hk => ⟨owns_block h.own k hk, (World.ownsRow.lt h.own k hk).2⟩
 have hT : Touch (fun k => pv.ownBlock = some k) W w5 := (Touch.of_ext ((Ext.refl W).alloc _)).trans (Touch.grown hg5 (fun k hk => hk))
 have hW : w.heap.size + 2 < Wr.heap.size := lt_of_cell h.o4
 have n2 : ¬ pv.ownBlock = some (w.heap.size + 2) := fun hk => by have := hpb _ hk; omega
 have n1 : ¬ pv.ownBlock = some (w.heap.size + 1) := fun hk => by have := hpb _ hk; omega
 have n0 : ¬ pv.ownBlock = some w.heap.size := fun hk => by have := hpb _ hk; omega
 have p0 := hT.cell (hx.cell h.o4) n2
 have p1 := (hT.frozen (hx.cell h.o4) n2).trans ((hx.frozen (lt_of_cell h.o4)).trans h.f4)
 refine ⟨⟨p0, p1⟩, ?_⟩
 have hS : Touch (fun k => pv.ownBlock = some k ∨ k = w.heap.size + 2) W (w5.setCell ⟨w.heap.size + 2, 4, none⟩ (.slice (some ⟨g, 0, none⟩) (rows.length + 1) cap)) := (hT.mono fun k hk => .inl hk).trans (Touch.setCell _ (.inr rfl))
 have hs6 : (w5.setCell ⟨w.heap.size + 2, 4, none⟩ (.slice (some ⟨g, 0, none⟩) (rows.length + 1) cap)).heap.size = w5.heap.size := by simp [World.setCell]
 have hgl := (World.ownsRow.lt hown5 g rfl).2
 have hz5 := hT.size
 obtain ⟨q0, q1, q2, q3⟩ := h.obx
 have key : ∀ (j : Nat) (u : Value), j < 4 → Wr.cell? ⟨w.heap.size + 2, j, none⟩ = some u → (w5.setCell ⟨w.heap.size + 2, 4, none⟩ (.slice (some ⟨g, 0, none⟩) (rows.length + 1) cap)).cell? ⟨w.heap.size + 2, j, none⟩ = some u := fun j u hj hu => by
  rw [World.cell?_setCell_other (h := by simp <;> omega)]; exact hT.cell (hx.cell hu) n2
 refine ⟨Touch.ext (h.ext.trans hx) hS (fun i hi => ?_), (h.box.ext hx).touch hS (fun hk => ?_), ?_, ⟨key 0 _ (by omega) q0, key 1 _ (by omega) q1, key 2 _ (by omega) q2, key 3 _ (by omega) q3⟩, by go_simp, by go_simp, ?_, ?_, ?_, ?_, ?_, ?_, ?_⟩
 ·rcases hi with hi | hi
  ·have := hpb _ hi; omega
  ·omega
 ·rcases hk with hk | hk
  ·exact n0 hk
  ·omega
 ·refine hS.keep _ _ ((hx.block (by omega)).trans h.zb) (fun hk => ?_)
  rcases hk with hk | hk
  ·exact n1 hk
  ·omega
 ·rw [List.length_append]
  have hne : ¬ g = w.heap.size + 2 := by
   rcases hloc with hl | hl
   ·intro hh; rw [hh] at hl; exact n2 hl
   ·omega
  exact owns_touch hown5 (Touch.setCell (M := fun k => k = w.heap.size + 2) _ rfl) (fun k hk => by cases hk; exact hne)
 ·simp [h.lv]
 ·simp [h.li]
 ·intro e v i s h1 h2 h3
  have hnew : ∀ ob, Value.ownBlock (.slice (some ⟨g, 0, none⟩) (rows ++ [r]).length cap) = some ob → pv.ownBlock = some ob ∨ ob = W.heap.size + 1 := fun ob hob => by cases hob; exact hloc
  rcases snoc_at h3 with ⟨hl3, h3⟩ | ⟨rfl, rfl⟩
  ·rw [List.getElem?_append_left (by rw [h.lv]; exact hl3)] at h1
   rw [List.getElem?_append_left (by rw [h.li]; exact hl3)] at h2
   obtain ⟨g1, g2, g3, g4⟩ := h.row e v i s h1 h2 h3
   refine ⟨(g1.ext hx).touch hS (fun k hk => ?_), g2, by rw [hs6]; omega, fun ob hob => ?_⟩
   ·rcases hk with hk | hk
    ·exact g4 k hk
    ·omega
   ·rcases hnew ob hob with hh | hh
    ·exact g4 ob hh
    ·omega
  ·rw [← h.lv, List.getElem?_concat_length] at h1
   rw [← h.li, List.getElem?_concat_length] at h2
   cases h1; cases h2
   refine ⟨hrow.touch hS (fun k hk => ?_), by simp only; omega, by rw [hs6]; exact hz5, fun ob hob => ?_⟩
   ·rcases hk with hk | hk
    ·have := hpb k hk; (try simp only); omega
    ·(try simp only); omega
   ·rcases hnew ob hob with hh | hh
    ·have := hpb ob hh; (try simp only); omega
    ·(try simp only); omega
 ·intro e f i j h1 h2 hef
  rcases snoc_at h2 with ⟨hl2, h2⟩ | ⟨rfl, rfl⟩
  ·rw [List.getElem?_append_left (by omega)] at h1
   exact h.apart e f i j h1 h2 hef
  ·rw [List.getElem?_append_left (by omega)] at h1
   obtain ⟨v, hv⟩ : ∃ v, vs[e]? = some v := ⟨vs[e]'(by rw [h.lv, ← h.li]; exact hef), by simp⟩
   obtain ⟨s, hs⟩ : ∃ s, rows[e]? = some s := ⟨rows[e]'(by rw [← h.li]; exact hef), by simp⟩
   have := (h.row e v i s hv h1 hs).2.2.1
   (try simp only); omega
 ·intro e s h3
  rcases snoc_at h3 with ⟨_, h3⟩ | ⟨rfl, rfl⟩
  ·exact h.spec e s h3
  ·exact ⟨hs1, hs2⟩
 ·have hm0 : ∀ d : Nat, W.heap[d]? = mark0 → (w5.setCell ⟨w.heap.size + 2, 4, none⟩ (.slice (some ⟨g, 0, none⟩) (rows.length + 1) cap)).heap[d]? = mark0 := fun d hd => by
   refine hS.keep d _ hd (fun hk => ?_)
   rcases hk with hk | hk
   ·have ho := owns_ext h.own hx
    rcases ho.2 with ⟨h1, _⟩ | ⟨g', cap', cur, h1, _, hh, _⟩
    ·rw [h1] at hk; cases hk
    ·rw [h1] at hk; cases hk
     rw [hd] at hh; cases hh
   ·obtain ⟨o, ho, hc⟩ := cells_of_cell (hx.cell h.o4)
    simp only at ho
    rw [hk, ho] at hd
    cases hd; cases hc
  exact h.marks.cons (by omega) (fun d hd => hm0 d ((hx.block (Array.getElem?_eq_some_iff.1 hd).1).trans hd)) hD (hm0 D hd)
/-! ### The rows of all editions -/
/-- An open book whose pages lie as rows. -/
structure OpG (b : Book) (gv ev : Value) (w : World) (ob oc : Nat) (vs : List Value) (iv : List (Nat × Nat)) (rows : List (List Pg)) (ds : List Deferred) (W : World) : Prop where
 ext : Ext w W
 box : BoxAt W w.heap.size gv b ev
 zb : W.heap[w.heap.size + 1]? = some (.cells #[.slice none 0 0, .int .i64 0, .int .i64 0, .slice none 0 0, .slice none 0 0] 95)
 obx : BoxAt W (w.heap.size + 2) gv b ev
 o4 : W.cell? ⟨w.heap.size + 2, 4, none⟩ = some (.slice (some ⟨ob, 0, none⟩) rows.length oc)
 grid : Grid W (w.heap.size + 3) ob oc vs iv rows
 marks : MarksAt w.heap.size ds W
theorem OpI.grid {b : Book} {gv ev pv : Value} {w W : World} {vs : List Value} {iv : List (Nat × Nat)} {rows : List (List Pg)} {ds : List Deferred} (h : OpI b gv ev w pv vs iv rows ds W) (hl : 0 < rows.length) : ∃ ob oc, pv = .slice (some ⟨ob, 0, none⟩) rows.length oc ∧ OpG b gv ev w ob oc vs iv rows ds W := by
 obtain ⟨ob, oc, rfl, _, _⟩ := owns_some h.own hl
 exact ⟨ob, oc, rfl, h.ext, h.box, h.zb, h.obx, h.o4, ⟨h.lv, h.li, h.own, fun e v i r h1 h2 h3 => by
  obtain ⟨g1, g2, g3, g4⟩ := h.row e v i r h1 h2 h3
  exact ⟨g1, g2, g3, g4 ob rfl⟩, h.apart⟩, h.marks⟩
theorem OpG.turn {b : Book} {gv ev : Value} {w W W' : World} {ob oc : Nat} {vs vs' : List Value} {iv : List (Nat × Nat)} {rows rows' : List (List Pg)} {ds : List Deferred} (h : OpG b gv ev w ob oc vs iv rows ds W) (hG : Grid W' (w.heap.size + 3) ob oc vs' iv rows') (hl : rows'.length = rows.length)
 (ht : Touch (fun k => k = ob ∨ ∃ (e : Nat) (v : Value), vs[e]? = some v ∧ v.ownBlock = some k) W W') : OpG b gv ev w ob oc vs' iv rows' ds W' := by
 have hob := World.ownsRow.lt h.grid.out ob rfl
 have key : ∀ k, (k = ob ∨ ∃ (e : Nat) (v : Value), vs[e]? = some v ∧ v.ownBlock = some k) → w.heap.size + 3 ≤ k ∧ ∃ c t fr, W.heap[k]? = some (.cells c t fr) := fun k hk => by
  rcases hk with rfl | ⟨e, v, hv, hk⟩
  ·refine ⟨hob.1, ?_⟩
   rcases h.grid.out.2 with ⟨h1, _⟩ | ⟨g', cap', cur, h1, _, hh, _⟩
   ·cases h1
   ·cases h1; exact ⟨_, _, _, hh⟩
  ·have hel := (List.getElem?_eq_some_iff.1 hv).1
   have h2 : iv[e]? = some (iv[e]'(by rw [h.grid.li, ← h.grid.lv]; exact hel)) := by simp
   have h3 : rows[e]? = some (rows[e]'(by rw [← h.grid.lv]; exact hel)) := by simp
   obtain ⟨g1, g2, _⟩ := h.grid.row e v _ _ hv h2 h3
   refine ⟨Nat.le_trans g2 (owns_block g1.own k hk), ?_⟩
   rcases g1.own.2 with ⟨h1, _⟩ | ⟨g', cap', cur, h1, _, hh, _⟩
   ·rw [h1] at hk; cases hk
   ·rw [h1] at hk; cases hk; exact ⟨_, _, _, hh⟩
 refine ⟨Touch.ext h.ext ht (fun k hk => by have := (key k hk).1; omega), h.box.touch ht (fun hk => by have := (key _ hk).1; omega), ht.keep _ _ h.zb (fun hk => by have := (key _ hk).1; omega), h.obx.touch ht (fun hk => by have := (key _ hk).1; omega), ?_, hG, h.marks.touch ht (fun k o hk ho l e => ?_)⟩
 ·rw [hl]; exact ht.cell h.o4 (fun hk => by have := (key _ hk).1; simp only at this; omega)
 ·obtain ⟨_, c, t, fr, hc⟩ := key k hk
  rw [ho, e] at hc; cases hc
theorem OpG.ext' {b : Book} {gv ev : Value} {w W W' : World} {ob oc : Nat} {vs : List Value} {iv : List (Nat × Nat)} {rows : List (List Pg)} {ds : List Deferred} (h : OpG b gv ev w ob oc vs iv rows ds W) (x : Ext W W') : OpG b gv ev w ob oc vs iv rows ds W' :=
 h.turn (h.grid.ext x) rfl (Touch.of_ext x)
/-! ### What the numbers are -/
def RowsAre (b : Book) (R S : Nat → List Int → Int) (rows : List (List Pg)) : Prop := ∀ (e : Nat) (r : List Pg), rows[e]? = some r → r.map Pg.l = spB b e ∧ ∀ p, p ∈ r → p.bef = R e p.l ∧ p.aft = S e p.l
def bef2 (b : Book) (t e : Nat) (l : List Int) : Int := if e < t then aheadB b e l else 1
def aft3 (b : Book) (t e : Nat) (l : List Int) : Int := if t ≤ e then afterB b e l else 1
theorem cnt_rows {m : Int} {get : Pg → Int} {F : List Int → Int} : ∀ {s : List Pg} (l : List Int), (∀ x, x ∈ s → get x = F x.l) → cntP m get s l = (((s.map Pg.l).filter fun y => decide (movedL l y ≤ m)).map F).sum
 | [], _, _ => rfl
 | x :: s, l, h => by
  have ih := cnt_rows (m := m) (get := get) (F := F) (s := s) l (fun y hy => h y (by simp [hy]))
  unfold cntP at *
  have hx := h x (by simp)
  by_cases hm : movedL l x.l ≤ m
  ·simp only [List.filter_cons, hm, decide_true, if_true, List.map_cons, List.sum_cons, ih, hx]
  ·simp only [List.filter_cons, hm, decide_false, List.map_cons]; exact ih
theorem rows_set {b : Book} {R S R' S' : Nat → List Int → Int} {rows : List (List Pg)} {e : Nat} {r r' : List Pg} (h : RowsAre b R S rows) (hr : rows[e]? = some r) (h1 : r'.map Pg.l = spB b e) (h2 : ∀ p, p ∈ r' → p.bef = R' e p.l ∧ p.aft = S' e p.l) (h3 : ∀ f l, f ≠ e → R f l = R' f l ∧ S f l = S' f l) : RowsAre b R' S' (rows.set e r') := by
 intro f q hf
 by_cases ef : e = f
 ·subst ef
  rw [List.getElem?_set_self (List.getElem?_eq_some_iff.1 hr).1] at hf
  cases hf; exact ⟨h1, h2⟩
 ·rw [List.getElem?_set_ne ef] at hf
  obtain ⟨g1, g2⟩ := h f q hf
  refine ⟨g1, fun p hp => ?_⟩
  have := h3 f p.l (fun e => ef e.symm)
  rw [← this.1, ← this.2]; exact g2 p hp
theorem upd_row {b : Book} {e fld : Nat} {m : Int} {get : Pg → Int} {r s : List Pg} (h : r.map Pg.l = spB b e) : (r.map fun p => updP fld p (cntP m get s p.l)).map Pg.l = spB b e := by
 rw [List.map_map, ← h]
 exact List.map_congr_left fun p _ => (updP_v fld p _).2
theorem ahead_step {b : Book} {rows : List (List Pg)} {t : Nat} {r s : List Pg} {S : Nat → List Int → Int} (h : RowsAre b (bef2 b (t + 1)) S rows) (hr : rows[t + 1]? = some r) (hs : rows[t]? = some s) : RowsAre b (bef2 b (t + 2)) S (rows.set (t + 1) (r.map fun p => updP 1 p (cntP b.moves Pg.bef s p.l))) := by
 obtain ⟨s1, s2⟩ := h t s hs
 obtain ⟨r1, r2⟩ := h (t + 1) r hr
 refine rows_set h hr (upd_row r1) (fun p hp => ?_) (fun f l hf => ⟨?_, rfl⟩)
 ·obtain ⟨q, hq, rfl⟩ := List.mem_map.1 hp
  have e : updP 1 q (cntP b.moves Pg.bef s q.l) = ⟨q.v, q.l, cntP b.moves Pg.bef s q.l, q.aft⟩ := rfl
  rw [e]
  refine ⟨?_, (r2 q hq).2⟩
  simp only
  rw [cnt_rows (F := aheadB b t) q.l (fun x hx => by rw [(s2 x hx).1]; unfold bef2; rw [if_pos (by omega)]), s1]
  unfold bef2; rw [if_pos (by omega)]; rfl
 ·unfold bef2
  by_cases hf2 : f < t + 1
  ·rw [if_pos hf2, if_pos (by omega)]
  ·rw [if_neg hf2, if_neg (by omega)]
theorem after_step {b : Book} {rows : List (List Pg)} {t : Nat} {r s : List Pg} {R : Nat → List Int → Int} (ht : (t : Int) + 1 < b.editions) (h : RowsAre b R (aft3 b (t + 1)) rows) (hr : rows[t]? = some r) (hs : rows[t + 1]? = some s) : RowsAre b R (aft3 b t) (rows.set t (r.map fun p => updP 2 p (cntP b.moves Pg.aft s p.l))) := by
 obtain ⟨s1, s2⟩ := h (t + 1) s hs
 obtain ⟨r1, r2⟩ := h t r hr
 refine rows_set h hr (upd_row r1) (fun p hp => ?_) (fun f l hf => ⟨rfl, ?_⟩)
 ·obtain ⟨q, hq, rfl⟩ := List.mem_map.1 hp
  have e : updP 2 q (cntP b.moves Pg.aft s q.l) = ⟨q.v, q.l, q.bef, cntP b.moves Pg.aft s q.l⟩ := rfl
  rw [e]
  refine ⟨(r2 q hq).1, ?_⟩
  simp only
  rw [cnt_rows (F := afterB b (t + 1)) q.l (fun x hx => by rw [(s2 x hx).2]; unfold aft3; rw [if_pos (by omega)]), s1]
  unfold aft3; rw [if_pos (by omega)]
  unfold afterB
  rw [show b.editions.toNat - 1 - t = (b.editions.toNat - 1 - (t + 1)) + 1 by omega]
  rfl
 ·unfold aft3
  by_cases hf2 : t + 1 ≤ f
  ·rw [if_pos hf2, if_pos (by omega)]
  ·rw [if_neg hf2, if_neg (by omega)]
theorem OpI.are {b : Book} {gv ev pv : Value} {w W : World} {vs : List Value} {iv : List (Nat × Nat)} {rows : List (List Pg)} {ds : List Deferred} (h : OpI b gv ev w pv vs iv rows ds W) : RowsAre b (bef2 b 0) (fun _ _ => 1) rows := fun e r hr => by
 obtain ⟨h1, h2⟩ := h.spec e r hr
 refine ⟨h1, fun p hp => ?_⟩
 have := h2 p hp
 unfold bef2; rw [if_neg (by omega)]; exact this
theorem are_first {b : Book} {S : Nat → List Int → Int} {rows : List (List Pg)} (h : RowsAre b (bef2 b 0) S rows) : RowsAre b (bef2 b 1) S rows := fun e r hr => by
 obtain ⟨h1, h2⟩ := h e r hr
 refine ⟨h1, fun p hp => ?_⟩
 have := h2 p hp
 unfold bef2 at *
 rw [if_neg (by omega)] at this
 by_cases h0 : e < 1
 ·have : e = 0 := by omega
  subst this
  rw [if_pos h0]; exact (h2 p hp)
 ·rw [if_neg h0]; exact this
theorem are_last {b : Book} {R : Nat → List Int → Int} {rows : List (List Pg)} {E : Nat} (hE : (E : Int) = b.editions) (hl : rows.length = E) (h : RowsAre b R (fun _ _ => 1) rows) : RowsAre b R (aft3 b (E - 1)) rows := fun e r hr => by
 have hel := (List.getElem?_eq_some_iff.1 hr).1
 obtain ⟨h1, h2⟩ := h e r hr
 refine ⟨h1, fun p hp => ⟨(h2 p hp).1, ?_⟩⟩
 rw [(h2 p hp).2]
 unfold aft3
 by_cases h0 : E - 1 ≤ e
 ·rw [if_pos h0]
  unfold afterB
  rw [show b.editions.toNat - 1 - e = 0 by omega]; rfl
 ·rw [if_neg h0]
theorem bef2_bd {b : Book} (hB : BookB b) (t e : Nat) (_he : (e : Int) < b.editions) (l : List Int) : 0 ≤ bef2 b t e l ∧ bef2 b t e l ≤ 100000000 := by
 unfold bef2
 split
 ·have h1 := ahead_nonneg b e l
  have h2 := ahead_le hB e l
  have h3 := hB.e3
  obtain rfl | rfl | rfl : e = 0 ∨ e = 1 ∨ e = 2 := by omega
  all_goals (constructor; exact h1; refine Int.le_trans h2 ?_; decide)
 ·omega
theorem aft3_bd {b : Book} (hB : BookB b) (t e : Nat) (_he : (e : Int) < b.editions) (l : List Int) : 0 ≤ aft3 b t e l ∧ aft3 b t e l ≤ 100000000 := by
 unfold aft3
 split
 ·unfold afterB
  have h1 := back_nonneg b (b.editions.toNat - 1 - e) e l
  have h2 := back_le hB (b.editions.toNat - 1 - e) e l
  have h3 := hB.e3
  generalize hd : b.editions.toNat - 1 - e = d at h1 h2
  obtain rfl | rfl | rfl : d = 0 ∨ d = 1 ∨ d = 2 := by omega
  all_goals (constructor; exact h1; refine Int.le_trans h2 ?_; decide)
 ·omega
theorem RowsAre.len {b : Book} {R S : Nat → List Int → Int} {rows : List (List Pg)} {e : Nat} {r : List Pg} (h : RowsAre b R S rows) (hB : BookB b) (hr : rows[e]? = some r) : r.length ≤ 4000 ∧ ∀ p, p ∈ r → p.l.length = b.goods.length := by
 obtain ⟨h1, _⟩ := h e r hr
 refine ⟨?_, fun p hp => ?_⟩
 ·have := congrArg List.length h1
  rw [List.length_map] at this
  have := sp_count hB e
  omega
 ·have : p.l ∈ spB b e := by rw [← h1]; exact List.mem_map.2 ⟨p, hp, rfl⟩
  exact (perms_mem.1 (sp_mem.1 this).1).1
/-! ### Pages that are left -/
def delTo (rows : List (List Pg)) (t : Nat) : List (List Pg) := (rows.take t).map (fun r => r.filter fun p => !deadP p) ++ rows.drop t
theorem delTo_zero (rows : List (List Pg)) : delTo rows 0 = rows := by simp [delTo]
theorem delTo_len (rows : List (List Pg)) {t : Nat} (h : t ≤ rows.length) : (delTo rows t).length = rows.length := by simp [delTo]; omega
theorem delTo_at {rows : List (List Pg)} {t : Nat} {r : List Pg} (h : rows[t]? = some r) : (delTo rows t)[t]? = some r := by
 have hl := (List.getElem?_eq_some_iff.1 h).1
 unfold delTo
 rw [List.getElem?_append_right (by simp; omega), List.length_map, List.length_take_of_le (by omega), Nat.sub_self, List.getElem?_drop, Nat.add_zero]; exact h
theorem delTo_succ {rows : List (List Pg)} {t : Nat} {r : List Pg} (h : rows[t]? = some r) : (delTo rows t).set t (r.filter fun p => !deadP p) = delTo rows (t + 1) := by
 obtain ⟨hl, hp⟩ := List.getElem?_eq_some_iff.1 h
 unfold delTo
 rw [List.set_append_right _ _ (by simp; omega), List.length_map, List.length_take_of_le (by omega), Nat.sub_self, List.drop_eq_getElem_cons hl, List.set_cons_zero, List.take_add_one, h]
 simp
/-- The row of an edition gets a new slice. -/
theorem Grid.put {A A' : World} {B ob oc : Nat} {vs : List Value} {iv : List (Nat × Nat)} {rows : List (List Pg)} (h : Grid A B ob oc vs iv rows) {e : Nat} {v v' : Value} {i : Nat × Nat} {r r' : List Pg} (h1 : vs[e]? = some v) (h2 : iv[e]? = some i) (h3 : rows[e]? = some r)
 (k : Touch (fun b => v.ownBlock = some b) A A') (hn : PgRow A' i.1 i.2 v' r') : Grid (A'.setCell ⟨ob, e, none⟩ v') B ob oc (vs.set e v') iv (rows.set e r') ∧ Touch (fun b => b = ob ∨ ∃ (e : Nat) (v : Value), vs[e]? = some v ∧ v.ownBlock = some b) A (A'.setCell ⟨ob, e, none⟩ v') := by
 obtain ⟨g1, g2, g3, g4⟩ := h.row e v i r h1 h2 h3
 have hob : ∀ b, v.ownBlock = some b → i.1 ≤ b ∧ b < i.2 := fun b hb => ⟨owns_block g1.own b hb, g1.blk b hb⟩
 have hset : Touch (fun b => b = ob) A' (A'.setCell ⟨ob, e, none⟩ v') := Touch.setCell _ rfl
 have hs : (A'.setCell ⟨ob, e, none⟩ v').heap.size = A'.heap.size := by simp [World.setCell]
 refine ⟨⟨by simp [h.lv], by simp [h.li], ?_, fun f u j s q1 q2 q3 => ?_, h.apart⟩, (k.mono fun b hb => .inr ⟨e, v, h1, hb⟩).trans (hset.mono fun b hb => .inl hb)⟩
 ·rw [List.length_set]
  exact ((owns_touch h.out k (fun g hg hd => by cases hg; have := hob _ hd; simp only at this; omega)).stored e v').1
 ·by_cases ef : e = f
  ·subst ef
   rw [List.getElem?_set_self (List.getElem?_eq_some_iff.1 h1).1] at q1
   rw [h2] at q2
   rw [List.getElem?_set_self (List.getElem?_eq_some_iff.1 h3).1] at q3
   cases q1; cases q2; cases q3
   exact ⟨hn.touch hset (fun b hb => by omega), g2, by rw [hs]; exact Nat.le_trans g3 k.size, g4⟩
  ·rw [List.getElem?_set_ne ef] at q1 q3
   obtain ⟨p1, p2, p3, p4⟩ := h.row f u j s q1 q2 q3
   refine ⟨(p1.touch k (fun b hb => ?_)).touch hset (fun b hb => by omega), p2, by rw [hs]; exact Nat.le_trans p3 k.size, p4⟩
   have hb' := hob b hb
   rcases Nat.lt_or_ge e f with hlt | hge
   ·have := h.apart e f i j h2 q2 hlt; omega
   ·have := h.apart f e j i q2 h2 (by omega); omega
/-! ### An open book -/
def PagesAt (w : World) (pv : Value) (b : Book) : Prop := ∃ (a : Option Addr) (c : Nat) (rows : List (List Pg)), pv = .slice a rows.length c ∧ (rows.length : Int) = b.editions ∧ rows.length ≤ c ∧ c ≤ 9223372036854775807 ∧
 ∀ (e : Nat) (r : List Pg), rows[e]? = some r → r.map Pg.l = pageB b e ∧ (∀ p, p ∈ r → p.bef = aheadB b e p.l ∧ p.aft = afterB b e p.l) ∧ ∃ ob v, a = some ⟨ob, 0, none⟩ ∧ w.cell? ⟨ob, e, none⟩ = some v ∧ RowOf pgC w v r ∧ ∀ p, p ∈ r → IntsAt w p.v p.l
theorem PagesAt.ext {w w' : World} {pv : Value} {b : Book} (h : PagesAt w pv b) (k : Ext w w') : PagesAt w' pv b := by
 obtain ⟨a, c, rows, h1, h2, h3, h4, h5⟩ := h
 refine ⟨a, c, rows, h1, h2, h3, h4, fun e r hr => ?_⟩
 obtain ⟨g1, g2, ob, v, g3, g4, g5, g6⟩ := h5 e r hr
 exact ⟨g1, g2, ob, v, g3, k.cell g4, g5.ext k, fun p hp => (g6 p hp).ext k⟩
def OpenAt (w : World) (v : Value) (b : Book) : Prop := ∃ gv ev pv, v = .agg #[gv, .int .i64 b.editions, .int .i64 b.moves, ev, pv] ∧ BookAt w (.agg #[gv, .int .i64 b.editions, .int .i64 b.moves, ev]) b ∧ PagesAt w pv b
theorem OpenAt.ext {w w' : World} {v : Value} {b : Book} (h : OpenAt w v b) (k : Ext w w') : OpenAt w' v b := by
 obtain ⟨gv, ev, pv, h1, h2, h3⟩ := h
 exact ⟨gv, ev, pv, h1, h2.ext k, h3.ext k⟩
theorem dead_spec {b : Book} {E : Nat} {rows : List (List Pg)} (h : RowsAre b (bef2 b E) (aft3 b 0) rows) {e : Nat} (he : e < E) {r : List Pg} (hr : rows[e]? = some r) : (r.filter fun p => !deadP p).map Pg.l = pageB b e ∧ ∀ p, p ∈ r.filter (fun p => !deadP p) → p.bef = aheadB b e p.l ∧ p.aft = afterB b e p.l := by
 obtain ⟨h1, h2⟩ := h e r hr
 have h3 : ∀ p, p ∈ r → p.bef = aheadB b e p.l ∧ p.aft = afterB b e p.l := fun p hp => by
  have := h2 p hp
  unfold bef2 aft3 at this
  rw [if_pos he, if_pos (by omega)] at this; exact this
 refine ⟨?_, fun p hp => h3 p (List.mem_filter.1 hp).1⟩
 unfold pageB
 rw [← h1, List.filter_map]
 congr 1
 refine List.filter_congr fun p hp => ?_
 have := h3 p hp
 unfold deadP manyB
 rw [this.1, this.2]; rfl
theorem small_of {b : Book} (hB : BookB b) {E : Nat} (hE : (E : Int) = b.editions) {rows : List (List Pg)} (h : RowsAre b (bef2 b E) (aft3 b 0) rows) {e : Nat} (he : e < E) {r : List Pg} (hr : rows[e]? = some r) : SmallP r := fun p hp => by
 have := (h e r hr).2 p hp
 rw [this.1, this.2]
 exact ⟨bef2_bd hB _ _ (by omega) _, aft3_bd hB _ _ (by omega) _⟩
/-- Cells from block n on stay as they are. -/
def KeepC (n : Nat) (A B : World) : Prop := ∀ (k : Nat) (o : Obj), n ≤ k → A.heap[k]? = some o → o.isCells = true → B.heap[k]? = some o
theorem KeepC.refl (n : Nat) (A : World) : KeepC n A A := fun _ _ _ h _ => h
theorem KeepC.trans {n : Nat} {A B C : World} (h : KeepC n A B) (k : KeepC n B C) : KeepC n A C := fun i o hi ho hc => k i o hi (h i o hi ho hc) hc
theorem KeepC.cell {n : Nat} {A B : World} (h : KeepC n A B) {a : Addr} {v : Value} (hc : A.cell? a = some v) (hn : n ≤ a.block) : B.cell? a = some v := by
 obtain ⟨o, ho, hi⟩ := cells_of_cell hc
 exact (World.cell?_of_block (w := A) ((h _ o hn ho hi).trans ho.symm)).trans hc
theorem KeepC.row {m : Nat} {A B : World} (h : KeepC m A B) {v : Value} {n : Nat} {cs : List Value} (hr : RowAt A v n cs) (hm : ∀ a n c, v = .slice (some a) n c → m ≤ a.block) : RowAt B v n cs := by
 obtain ⟨a, c, hv, h1, h2, h0, h3⟩ := hr
 exact ⟨a, c, hv, h1, h2, h0, fun j u hj => by obtain ⟨b, o, ha, hc⟩ := h3 j u hj; exact ⟨b, o, ha, h.cell hc (by subst ha; have := hm _ _ _ hv; simpa using this)⟩⟩
theorem KeepC.of_marks {A B : World} {n m : Nat} (hk : ∀ (k : Nat) (o : Obj), A.heap[k]? = some o → (k < n ∨ ∀ l, o ≠ .deferred l) → B.heap[k]? = some o) : KeepC m A B := fun k o _ ho hi => hk k o ho (.inr fun l e => by subst e; cases hi)
theorem KeepC.of_ext {n : Nat} {A B : World} (h : Ext A B) : KeepC n A B := fun _ _ _ ho _ => (h.block (Array.getElem?_eq_some_iff.1 ho).1).trans ho
theorem KeepC.of_touch {n : Nat} {D : Nat → Prop} {A B : World} (h : Touch D A B) (hD : ∀ i, D i → i < n) : KeepC n A B := fun k o hk ho _ => h.keep k o ho (fun hd => by have := hD k hd; omega)
/-- Whatever becomes of the blocks before the grid: its pages can be read. -/
theorem Grid.pages {b : Book} {W W' : World} {B ob oc E : Nat} {vs : List Value} {iv : List (Nat × Nat)} {rows : List (List Pg)} (hE : (E : Int) = b.editions) (hl : rows.length = E) (hA : RowsAre b (bef2 b E) (aft3 b 0) rows) (h : Grid W B ob oc vs iv (delTo rows E)) (hk : KeepC B W W') : PagesAt W' (.slice (some ⟨ob, 0, none⟩) E oc) b := by
 have hdl := delTo_len rows (t := E) (by omega)
 have hd : delTo rows E = rows.map (fun r => r.filter fun p => !deadP p) := by unfold delTo; rw [← hl]; simp
 have hob := (World.ownsRow.lt h.out ob rfl).1
 obtain ⟨_, _, hv, o1, o2⟩ := owns_slice h.out
 cases hv
 refine ⟨some ⟨ob, 0, none⟩, oc, delTo rows E, by rw [hdl, hl], by rw [hdl, hl]; exact hE, o1, o2, fun e r hr => ?_⟩
 obtain ⟨v, i, q1, q2, q3, q4, q5, _⟩ := h.at hr
 rw [hd, List.getElem?_map] at hr
 cases hs : rows[e]? with
 | none => rw [hs] at hr; cases hr
 | some s =>
  rw [hs] at hr
  have hel := (List.getElem?_eq_some_iff.1 hs).1
  have e1 : r = s.filter fun p => !deadP p := by simpa using hr.symm
  have := dead_spec hA (by omega) hs
  rw [← e1] at this
  refine ⟨this.1, this.2, ob, v, rfl, hk.cell q3 hob, hk.row (RowAt.of_owns q4.own) (fun a n c e => ?_), fun p hp => hk.row (q4.mean p hp) (fun a n c e => Nat.le_trans q5 (q4.off p hp a n c e).1)⟩
  rcases q4.own.2 with ⟨h1, _⟩ | ⟨g', cap', cur, h1, hb, _⟩
  ·rw [h1] at e; cases e
  ·rw [h1] at e; cases e; exact Nat.le_trans q5 hb
theorem open_touch (W : World) (k : Nat) (a0 a1 a2 a3 a4 : Value) : Touch (fun i => i = k) W (((((W.setCell ⟨k, 0, none⟩ a0).setCell ⟨k, 1, none⟩ a1).setCell ⟨k, 2, none⟩ a2).setCell ⟨k, 3, none⟩ a3).setCell ⟨k, 4, none⟩ a4) :=
 ((((Touch.setCell (M := fun i => i = k) _ rfl).trans (Touch.setCell _ rfl)).trans (Touch.setCell _ rfl)).trans (Touch.setCell _ rfl)).trans (Touch.setCell _ rfl)
theorem open_store {W : World} {k : Nat} {z0 z1 z2 z3 z4 : Value} {t : TypeId} (h : W.heap[k]? = some (.cells #[z0, z1, z2, z3, z4] t)) (a0 a1 a2 a3 a4 : Value) : (((((W.setCell ⟨k, 0, none⟩ a0).setCell ⟨k, 1, none⟩ a1).setCell ⟨k, 2, none⟩ a2).setCell ⟨k, 3, none⟩ a3).setCell ⟨k, 4, none⟩ a4).heap[k]? = some (.cells #[a0, a1, a2, a3, a4] t) := by
 have h1 := heap_setCell_same W k 0 _ t a0 h
 have h2 := heap_setCell_same _ k 1 _ t a1 h1
 have h3 := heap_setCell_same _ k 2 _ t a2 h2
 have h4 := heap_setCell_same _ k 3 _ t a3 h3
 exact heap_setCell_same _ k 4 _ t a4 h4
theorem open_cells {W : World} {k : Nat} {z0 z1 z2 z3 z4 : Value} {t : TypeId} (h : W.heap[k]? = some (.cells #[z0, z1, z2, z3, z4] t)) : (W.cell? ⟨k, 0, none⟩ = some z0 ∧ W.cell? ⟨k, 1, none⟩ = some z1 ∧ W.cell? ⟨k, 2, none⟩ = some z2 ∧ W.cell? ⟨k, 3, none⟩ = some z3 ∧ W.cell? ⟨k, 4, none⟩ = some z4) ∧
 (W.frozen? ⟨k, 0, none⟩ = false ∧ W.frozen? ⟨k, 1, none⟩ = false ∧ W.frozen? ⟨k, 2, none⟩ = false ∧ W.frozen? ⟨k, 3, none⟩ = false ∧ W.frozen? ⟨k, 4, none⟩ = false) := by
 unfold World.cell? World.frozen?
 simp only [h]
 simp
end Go.Proofs.YtokananogogjaaaGreatDoor
