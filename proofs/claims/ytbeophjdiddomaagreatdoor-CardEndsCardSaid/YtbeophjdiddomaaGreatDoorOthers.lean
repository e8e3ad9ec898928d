/- Sets of numbers: maps from numbers to true. -/
import Derived.Test.YtbeophjdiddomaaGreatDoorWaysb
import Derived.Maps.OwnSet
import Derived.Maps.OwnIn
import Derived.Maps.RangeWalk
import Derived.Test.YtbeophjdiddomaaGreatDoorPush
import Derived.Laws.OwnMore
namespace Go.Proofs.YtbeophjdiddomaaGreatDoor
open Go.RowKit
open Go.Maps (Keyed keyOf_int_mk Tidy IsMap)
open Go.WideElems (rg)

theorem set_law : Keyed Tryz.prog 3 := Go.Maps.int_keyed Tryz.underlying3
noncomputable abbrev setElem : Value → Option (DataW Unit × List MemPlace) := plainElem Tryz.prog 4
theorem zeroBool (w : World) : (zeroValue 4).run Tryz.prog w = .ok (.bool false) w := by kernel_rfl
theorem wf64 {n : Int} (h0 : -1000000 ≤ n) (h1 : n ≤ 1000000) : (Lit.int .i64 n).wf = true := WalkArith.wf_i64 (by omega)

/-- D holds true at the numbers of S, and nothing else. -/
structure SetD (D : DataW Unit) (S : Int → Prop) : Prop where
  has : ∀ n, (Lit.int .i64 n).wf = true → (Maps.has D (.int .i64 n) = true ↔ S n)
  val : ∀ n, (Lit.int .i64 n).wf = true → S n → ∀ z, D.atKey (.int .i64 n) z = .lit (.bool true)
  rng : ∀ n, S n → 0 ≤ n ∧ n ≤ 20000
def SetAt (W : World) (b : Nat) (S : Int → Prop) : Prop := ∃ D : DataW Unit, W.ownsMap Tryz.prog 3 setElem b 20001 D ∧ SetD D S
theorem SetAt.lt {W : World} {b : Nat} {S : Int → Prop} (h : SetAt W b S) : b < W.heap.size := by
  obtain ⟨D, h1, _⟩ := h; exact h1.lt
theorem SetAt.congr {W : World} {b : Nat} {S T : Int → Prop} (h : SetAt W b S) (hst : ∀ n, S n ↔ T n) : SetAt W b T := by
  obtain ⟨D, h1, h2⟩ := h
  exact ⟨D, h1, ⟨fun n hn => (h2.has n hn).trans (hst n), fun n hn hs => h2.val n hn ((hst n).2 hs), fun n hs => h2.rng n ((hst n).2 hs)⟩⟩
theorem ownsMap_block {W W' : World} {b n : Nat} {D : DataW Unit} (h : W.ownsMap Tryz.prog 3 setElem b n D) (k : W'.heap[b]? = W.heap[b]?) : W'.ownsMap Tryz.prog 3 setElem b n D := by
  obtain ⟨es, clock, hb, r⟩ := h
  exact ⟨es, clock, k.trans hb, r⟩
theorem SetAt.block {W W' : World} {b : Nat} {S : Int → Prop} (h : SetAt W b S) (k : W'.heap[b]? = W.heap[b]?) : SetAt W' b S := by
  obtain ⟨D, h1, h2⟩ := h; exact ⟨D, ownsMap_block h1 k, h2⟩
theorem SetAt.ext {W W' : World} {b : Nat} {S : Int → Prop} (h : SetAt W b S) (k : Ext W W') : SetAt W' b S := h.block (k.block h.lt)
theorem SetAt.kept {W W' : World} {b : Nat} {S : Int → Prop} {row : Option Nat} (h : SetAt W b S) (k : W.grownBy W' row) (hn : some b ≠ row) : SetAt W' b S := by
  obtain ⟨D, h1, h2⟩ := h; exact ⟨D, h1.kept k hn, h2⟩

/-- As many entries as there can be at most. -/
theorem set_tight {W : World} {b n : Nat} {D : DataW Unit} {S : Int → Prop} (h : W.ownsMap Tryz.prog 3 setElem b n D) (hd : SetD D S) : W.ownsMap Tryz.prog 3 setElem b 20001 D := by
  obtain ⟨es, clock, hb, F, hn, rfl⟩ := h
  refine ⟨es, clock, hb, F, ?_, rfl⟩
  have hown : W.ownsMap Tryz.prog 3 setElem b n (.map ((es.toList.map (rg Tryz.prog 3 setElem)).foldr DataW.insert [])) := ⟨es, clock, hb, F, hn, rfl⟩
  obtain ⟨L, hL, hpw, _⟩ := hown.entries set_law
  have hLl : L = (es.toList.map (rg Tryz.prog 3 setElem)).foldr DataW.insert [] := by cases hL; rfl
  have hlen : L.length = es.size := by rw [hLl]; simp [length_sorted]
  have hkeys : Go.Maps.Keys (Go.Maps.KeysOf Tryz.prog 3) (es.toList.map (rg Tryz.prog 3 setElem)) := Go.Maps.fit_keys F
  have hsub : (L.map (·.1)) ⊆ (List.range 20001).map (fun (i : Nat) => Lit.int .i64 i) := by
    intro l hl
    obtain ⟨p, hp, rfl⟩ := List.mem_map.1 hl
    have hp' : p ∈ es.toList.map (rg Tryz.prog 3 setElem) := mem_sorted.1 (hLl ▸ hp)
    obtain ⟨v, hv⟩ := hkeys p hp'
    obtain ⟨x, rfl, hx, hw⟩ := Maps.keyOf_int_inv Tryz.underlying3 hv
    have hh : Maps.has (.map L : DataW Unit) (.int .i64 x) = true := by
      rw [Maps.has_eq, List.any_eq_true]
      exact ⟨p, hp, by rw [hx]; simp [Lit.sameKey]⟩
    have hs := hd.rng x ((hd.has x hw).1 (by rw [← hL] at hh; exact hh))
    rw [hx]
    exact List.mem_map.2 ⟨x.toNat, List.mem_range.2 (by omega), by simp; omega⟩
  have hnd : (L.map (·.1)).Nodup := by
    rw [List.nodup_iff_pairwise_ne, List.pairwise_map]; exact hpw
  have := hnd.length_le_of_subset hsub
  simp at this
  omega

theorem setD_empty : SetD (.map []) (fun _ => False) := ⟨fun n _ => by simp [Maps.has], fun n _ h => h.elim, fun n h => h.elim⟩
theorem set_made (w : World) : SetAt (w.alloc (.map #[] 0)) w.heap.size (fun _ => False) := ⟨.map [], (World.ownsMap_made w _ _ _).mono (by omega), setD_empty⟩
theorem setD_put {D : DataW Unit} {S : Int → Prop} (h : SetD D S) (hm : IsMap D) {n : Int} (h0 : 0 ≤ n) (h1 : n ≤ 20000) : SetD (D.put (.int .i64 n) (.lit (.bool true))) (fun m => S m ∨ m = n) := by
  have hk : WideAt.IsKeyLit (Lit.int .i64 n) := set_law.key (keyOf_int_mk Tryz.underlying3 (wf64 (by omega) (by omega)))
  refine ⟨fun m hw => ?_, fun m hw hs z => ?_, fun m hs => ?_⟩
  · by_cases e : m = n
    · subst e; rw [Maps.has_put_same hm hk]; simp
    · rw [Maps.has_put_other (fun h => e (by cases h; rfl)), h.has m hw]; simp [e]
  · by_cases e : m = n
    · subst e; exact Maps.atKey_put_same hm hk _ _
    · rw [Maps.atKey_put_other (fun h => e (by cases h; rfl))]; exact h.val m hw (hs.resolve_right e) z
  · rcases hs with hs | rfl
    · exact h.rng m hs
    · exact ⟨h0, h1⟩
theorem set_store {W' : World} {b n : Nat} {D : DataW Unit} {S : Int → Prop} (hd : SetD D S) (hm : IsMap D) {k : Int} (h0 : 0 ≤ k) (h1 : k ≤ 20000) (h : W'.ownsMap Tryz.prog 3 setElem b n (D.put (.int .i64 k) (.lit (.bool true)))) :
    SetAt W' b (fun m => S m ∨ m = k) := ⟨_, set_tight h (setD_put hd hm h0 h1), setD_put hd hm h0 h1⟩

section laws
variable {ops : Array Oper} {rest : List Oper} {o : Oper} {a : Act} {Q : Exit → Act → World → Prop} {w : World}
theorem wpList_set_store (hg : o.guard = none) (m x v : Operand) (hop : o.op = Op.mapUpdate 130 m x v) {b : Nat} {S : Int → Prop} (hm : a.eval m = .map (some b)) (hown : SetAt w b S) {k : Int} (hx : a.eval x = .int .i64 k) (hv : a.eval v = .bool true) (h0 : 0 ≤ k) (h1 : k ≤ 20000)
    (hK : ∀ w', SetAt w' b (fun m => S m ∨ m = k) → w.grownBy w' (some b) → wpList Tryz.prog ops Q rest (a.put o.dst undef) w') : wpList Tryz.prog ops Q (o :: rest) a w := by
  obtain ⟨D, h2, h3⟩ := hown
  exact wpList_mapUpdate_own w hg m x v _ hop 3 4 set_law Tryz.underlying130 setElem b 20001 D hm h2 (by unfold maxLen; omega) _ _ _ hx hv (keyOf_int_mk Tryz.underlying3 (wf64 (by omega) (by omega))) _ [] (plainElem_bool Tryz.underlying4 true)
    (fun w' h4 h5 => hK w' (set_store h3 h2.isMap h0 h1 h4) h5)
theorem wpList_set_insert (hg : o.guard = none) (m x v : Operand) (hop : o.op = Op.insert 130 m x v) {b : Nat} {S : Int → Prop} (hm : a.eval m = .map (some b)) (hown : SetAt w b S) {k : Int} (hx : a.eval x = .int .i64 k) (hv : a.eval v = .bool true) (h0 : 0 ≤ k) (h1 : k ≤ 20000)
    (hK : ∀ w', SetAt w' b (fun m => S m ∨ m = k) → w.grownBy w' (some b) → wpList Tryz.prog ops Q rest (a.put o.dst undef) w') : wpList Tryz.prog ops Q (o :: rest) a w := by
  obtain ⟨D, h2, h3⟩ := hown
  refine wpList_plain hg fun K' hK' => ?_
  obtain ⟨w', hrun, r1, r2⟩ := h2.update (t := 130) set_law Tryz.underlying130 (by unfold maxLen; omega) (keyOf_int_mk Tryz.underlying3 (wf64 (n := k) (by omega) (by omega))) (plainElem_bool (H := Unit) Tryz.underlying4 true)
  unfold Oper.wp
  simp [execOp, hop, hm, hx, hv, hrun, Result.andThen]
  exact hK' _ _ (hK w' (set_store h3 h2.isMap h0 h1 r1) r2)
theorem wpListIn_set_store {F : Fence} {nF : Nat} (hg : o.guard = none) (m x v : Operand) (hop : o.op = Op.mapUpdate 130 m x v) {b : Nat} {S : Int → Prop} (hm : a.eval m = .map (some b)) (hown : SetAt w b S) {k : Int} (hx : a.eval x = .int .i64 k) (hv : a.eval v = .bool true) (h0 : 0 ≤ k) (h1 : k ≤ 20000)
    (hK : ∀ w', SetAt w' b (fun m => S m ∨ m = k) → w.grownBy w' (some b) → wpListIn F nF Tryz.prog ops Q rest (a.put o.dst undef) w') : wpListIn F nF Tryz.prog ops Q (o :: rest) a w := by
  obtain ⟨D, h2, h3⟩ := hown
  exact wpListIn_mapUpdate_own w hg m x v _ hop 3 4 set_law Tryz.underlying130 setElem b 20001 D hm h2 (by unfold maxLen; omega) _ _ _ hx hv (keyOf_int_mk Tryz.underlying3 (wf64 (by omega) (by omega))) _ [] (plainElem_bool Tryz.underlying4 true)
    (fun w' h4 h5 => hK w' (set_store h3 h2.isMap h0 h1 h4) h5)
theorem wpList_set_lookup (hg : o.guard = none) (m x : Operand) (hop : o.op = Op.lookup 130 m x false) {b : Nat} {S : Int → Prop} (hm : a.eval m = .map (some b)) (hown : SetAt w b S) {k : Int} (hx : a.eval x = .int .i64 k) (h0 : -1000000 ≤ k) (h1 : k ≤ 1000000)
    (hK : ∀ c : Bool, (c = true ↔ S k) → wpList Tryz.prog ops Q rest (a.put o.dst (.bool c)) w) : wpList Tryz.prog ops Q (o :: rest) a w := by
  obtain ⟨D, h2, h3⟩ := hown
  refine wpList_plain hg fun K' hK' => ?_
  obtain ⟨v, ps, hrun, hv⟩ := h2.lookup (t := 130) set_law Tryz.underlying130 (zeroBool w) (plainElem_bool (H := Unit) Tryz.underlying4 false) (keyOf_int_mk Tryz.underlying3 (wf64 h0 h1))
  have hc : ∃ c : Bool, v = .bool c ∧ (c = true ↔ S k) := by
    by_cases hs : S k
    · rw [h3.val k (wf64 h0 h1) hs] at hv
      cases v <;> simp [plainElem, Tryz.underlying4] at hv
      rename_i c
      exact ⟨c, rfl, by simp [hv, hs]⟩
    · have hh : Maps.has D (.int .i64 k) = false := by
        cases h : Maps.has D (.int .i64 k) with
        | false => rfl
        | true => exact absurd ((h3.has k (wf64 h0 h1)).1 h) hs
      rw [Maps.atKey_of_not_has hh] at hv
      cases v <;> simp [plainElem, Tryz.underlying4] at hv
      rename_i c
      exact ⟨c, rfl, by simp [hv, hs]⟩
  obtain ⟨c, rfl, hcs⟩ := hc
  unfold Oper.wp
  simp [execOp, hop, hm, hx, hrun, Result.andThen]
  exact hK' _ _ (hK c hcs)
end laws
end Go.Proofs.YtbeophjdiddomaaGreatDoor

/- Ranging over sets. -/
namespace Go.Proofs.YtbeophjdiddomaaGreatDoor
open Go.RowKit
open Go.Maps (Keyed keyOf_int_mk Tidy IsMap)

/-- Block r is an iterator over the set S in block b; the numbers of L are still to come. -/
def RangeAt (W : World) (b r : Nat) (S L : Int → Prop) : Prop :=
  ∃ (D : DataW Unit) (left : Lit → Bool) (cnt : Nat), W.ranges Tryz.prog 3 setElem b r 20001 D left cnt ∧ SetD D S ∧ ∀ n, (Lit.int .i64 n).wf = true → (left (.int .i64 n) = true ↔ L n)
theorem RangeAt.set {W : World} {b r : Nat} {S L : Int → Prop} (h : RangeAt W b r S L) : SetAt W b S := by
  obtain ⟨D, left, cnt, h1, h2, _⟩ := h; exact ⟨D, h1.owns, h2⟩
theorem RangeAt.lt {W : World} {b r : Nat} {S L : Int → Prop} (h : RangeAt W b r S L) : r < W.heap.size := by
  obtain ⟨D, left, cnt, h1, h2, _⟩ := h; exact h1.lt
theorem RangeAt.ne {W : World} {b r : Nat} {S L : Int → Prop} (h : RangeAt W b r S L) : r ≠ b := by
  obtain ⟨D, left, cnt, h1, h2, _⟩ := h; exact h1.ne
theorem RangeAt.kept {W W' : World} {b r : Nat} {S L : Int → Prop} {row : Option Nat} (h : RangeAt W b r S L) (hg : W.grownBy W' row) (hb : some b ≠ row) (hr : some r ≠ row) : RangeAt W' b r S L := by
  obtain ⟨D, left, cnt, h1, h2, h3⟩ := h; exact ⟨D, left, cnt, h1.kept hg hb hr, h2, h3⟩
theorem RangeAt.block {W W' : World} {b r : Nat} {S L : Int → Prop} (h : RangeAt W b r S L) (hb : W'.heap[b]? = W.heap[b]?) (hr : W'.heap[r]? = W.heap[r]?) : RangeAt W' b r S L := by
  obtain ⟨D, left, cnt, ⟨es, clock, since, seen, c0, a1, a2, a3, a4, a5, a6⟩, h2, h3⟩ := h
  exact ⟨D, left, cnt, ⟨es, clock, since, seen, c0, hb.trans a1, a2, a3, a4, hr.trans a5, a6⟩, h2, h3⟩
theorem rangeLeft_block {W W' : World} {b r : Nat} (hb : W'.heap[b]? = W.heap[b]?) (hr : W'.heap[r]? = W.heap[r]?) : W'.rangeLeft b r = W.rangeLeft b r := by
  unfold World.rangeLeft; rw [hb, hr]
theorem RangeAt.iter {W : World} {b r : Nat} {S L : Int → Prop} (h : RangeAt W b r S L) : ∃ o : Obj, W.heap[r]? = some o ∧ o.isCells = false := by
  obtain ⟨D, left, cnt, ⟨es, clock, since, seen, c0, a1, a2, a3, a4, a5, a6⟩, h2, h3⟩ := h
  exact ⟨_, a5, rfl⟩
theorem SetAt.obj {W : World} {b : Nat} {S : Int → Prop} (h : SetAt W b S) : ∃ o : Obj, W.heap[b]? = some o ∧ o.isCells = false := by
  obtain ⟨D, ⟨es, clock, hb, _⟩, _⟩ := h; exact ⟨_, hb, rfl⟩

section laws
variable {ops : Array Oper} {rest : List Oper} {o : Oper} {a : Act} {Q : Exit → Act → World → Prop} {w : World}
theorem wpList_set_range (hg : o.guard = none) (m : Operand) (hop : o.op = Op.range 130 m) {b : Nat} {S : Int → Prop} (hm : a.eval m = .map (some b)) (hown : SetAt w b S) (r : Nat) (hr : w.heap.size = r)
    (hK : ∀ w', RangeAt w' b r S S → w.grownBy w' none → w'.heap.size = r + 1 → wpList Tryz.prog ops Q rest (a.put o.dst (.pointer (some ⟨r, 0, none⟩))) w') : wpList Tryz.prog ops Q (o :: rest) a w := by
  subst hr
  obtain ⟨D, h2, h3⟩ := hown
  exact wpList_range_own _ hg m _ hop 3 4 set_law Tryz.underlying130 setElem b 20001 D hm h2 (fun w' h4 h5 h6 => hK w' ⟨D, _, _, h4, h3, h3.has⟩ h5 h6)
theorem wpList_set_next (hg : o.guard = none) (it : Operand) (hop : o.op = Op.next it false) {b r : Nat} {S L : Int → Prop} (hit : a.eval it = .pointer (some ⟨r, 0, none⟩)) (h : RangeAt w b r S L)
    (hDone : (∀ n, -1000000 ≤ n → n ≤ 1000000 → ¬ L n) → wpList Tryz.prog ops Q rest (a.put o.dst (.tuple #[.bool false])) w)
    (hMore : ∀ (x : Int) (w' : World), L x → S x → 0 ≤ x → x ≤ 20000 → RangeAt w' b r S (fun z => L z ∧ z ≠ x) → w'.rangeLeft b r < w.rangeLeft b r → w.grownBy w' (some r) → w'.heap.size = w.heap.size →
      (Instr.entry (.pointer (some ⟨r, 0, none⟩))).run Tryz.prog w' = .ok (.tuple #[.int .i64 x, .bool true]) w' → wpList Tryz.prog ops Q rest (a.put o.dst (.tuple #[.bool true, .int .i64 x, .bool true])) w') : wpList Tryz.prog ops Q (o :: rest) a w := by
  obtain ⟨D, left, cnt, h1, h2, h3⟩ := h
  refine wpList_next_ranges (α := Int) (β := Bool) _ hg it hop 3 set_law setElem (.int .i64) .bool (fun key kl hk => by obtain ⟨x, hx, _⟩ := Maps.keyOf_int_inv Tryz.underlying3 hk; exact ⟨x, hx⟩)
    (fun v y hv => by cases v <;> simp [plainElem, Tryz.underlying4] at hv; exact ⟨_, rfl⟩) b r 20001 D left cnt hit h1 (fun _ h0 => hDone (fun n a b hl => by have := (h3 n (wf64 a b)).2 hl; rw [h0] at this; cases this)) ?_
  intro x c kl y w' cnt' hkey hl hR hat hrg hlt hgr hsz hen
  obtain ⟨x', e1, rfl, hw⟩ := Maps.keyOf_int_inv Tryz.underlying3 hkey
  cases e1
  have hS : S x := (h2.has x hw).1 (Maps.has_true_of_atKey hat)
  have hb := h2.rng x hS
  have hv := h2.val x hw hS
  have hc : c = true := by
    have e := (hat (.lit (.bool true))).symm.trans (hv _)
    simp only [plainElem, Tryz.underlying4, Option.some.injEq] at hR
    rw [← hR] at e
    simpa using e
  subst hc
  refine hMore x w' ((h3 x hw).1 hl) hS hb.1 hb.2 ⟨D, _, _, hrg, h2, fun n hn => ?_⟩ (by rw [hrg.left_eq, h1.left_eq]; exact hlt) hgr hsz hen
  by_cases e : n = x
  · subst e; simp [Lit.sameKey]
  · have : (Lit.int .i64 n).sameKey (.int .i64 x) = false := Maps.sameKey_ne (fun h => e (by cases h; rfl))
    rw [this]; simp [h3 n hn, e]
end laws
end Go.Proofs.YtbeophjdiddomaaGreatDoor

/- The sums of the numbers of two sets. -/
namespace Go.Proofs.YtbeophjdiddomaaGreatDoor
open Go.RowKit

def withS (S T : Int → Prop) (most : Int) : Int → Prop := fun n => ∃ x y, S x ∧ T y ∧ n = x + y ∧ n ≤ most
/-- What is in the sums when the numbers of L are still to come. -/
def withU (S L T : Int → Prop) (most : Int) : Int → Prop := fun n => ∃ x y, S x ∧ ¬ L x ∧ T y ∧ n = x + y ∧ n ≤ most
/-- .. and of x all numbers of T but those of L2. -/
def withV (S L T L2 : Int → Prop) (x most : Int) : Int → Prop := fun n => withU S L T most n ∨ ∃ y, T y ∧ ¬ L2 y ∧ n = x + y ∧ n ≤ most
theorem withV_start (S L T : Int → Prop) (x most n : Int) : withV S L T T x most n ↔ withU S L T most n := by
  unfold withV; constructor
  · rintro (h | ⟨y, h1, h2, _⟩)
    · exact h
    · exact absurd h1 h2
  · exact .inl
theorem withV_step {S L T L2 : Int → Prop} {x y most : Int} (hT : T y) (n : Int) : withV S L T (fun z => L2 z ∧ z ≠ y) x most n ↔ (withV S L T L2 x most n ∨ (n = x + y ∧ n ≤ most)) := by
  unfold withV; constructor
  · rintro (h | ⟨z, h1, h2, h3, h4⟩)
    · exact .inl (.inl h)
    · by_cases e : z = y
      · subst e; exact .inr ⟨h3, h4⟩
      · exact .inl (.inr ⟨z, h1, fun h => h2 ⟨h, e⟩, h3, h4⟩)
  · rintro ((h | ⟨z, h1, h2, h3, h4⟩) | ⟨h3, h4⟩)
    · exact .inl h
    · exact .inr ⟨z, h1, fun h => h2 h.1, h3, h4⟩
    · exact .inr ⟨y, hT, fun h => h.2 rfl, h3, h4⟩
theorem withV_end {S L T L2 : Int → Prop} {x most : Int} (hS : S x) (h2 : ∀ n, T n → ¬ L2 n) (n : Int) : withV S (fun z => L z) T L2 x most n ↔ withU S (fun z => L z ∧ z ≠ x) T most n := by
  unfold withV withU; constructor
  · rintro (⟨a, b, h1, h3, h4⟩ | ⟨y, h1, h3, h4, h5⟩)
    · exact ⟨a, b, h1, fun h => h3 h.1, h4⟩
    · exact ⟨x, y, hS, fun h => h.2 rfl, h1, h4, h5⟩
  · rintro ⟨a, b, h1, h3, h4, h5, h6⟩
    by_cases e : a = x
    · subst e; exact .inr ⟨b, h4, h2 b h4, h5, h6⟩
    · exact .inl ⟨a, b, h1, fun h => h3 ⟨h, e⟩, h4, h5, h6⟩

set_option maxRecDepth 100000 in
set_option maxHeartbeats 4000000 in
theorem with_any (bs bt : Nat) (S T : Int → Prop) (most : Int) (w : World) (hS : SetAt w bs S) (hT : SetAt w bt T) (h0 : 0 ≤ most) (h1 : most ≤ 20000) :
    Calls Tryz.prog 109 #[.map (some bs), .map (some bt), .int .i64 most] w fun e w' => ∃ b, e = .returned (.map (some b)) ∧ w.heap.size ≤ b ∧ Ext w w' ∧ SetAt w' b (withS S T most) := by
  have hmm := @run_makeMap Tryz.prog
  have hls := hS.lt
  have hlt := hT.lt
  have hx0 : Ext w (w.alloc (.map #[] 0)) := (Ext.refl w).alloc _
  have tok1 : True := trivial
  go_enter Tryz.func109, Tryz.ntmps109
  go_wp2_with (at_range; have _t := tok1; refine wpList_set_range rfl _ rfl rfl (hS.ext hx0) (w.heap.size + 1) (by simp) ?_; intro w1 hrg hgr hsz; clear tok1; go_frame)
  have hx1 : Ext w w1 := hx0.grown hgr (fun k hk => by cases hk)
  have hob : SetAt w1 w.heap.size (withU S S T most) := ((set_made w).kept hgr (by simp)).congr (fun n => ⟨fun h => h.elim, fun ⟨x, y, h1, h2, _⟩ => h2 h1⟩)
  clear hgr hsz hmm hS _t
  go_loopw [8] (fun _ wr => ∃ L, RangeAt wr bs (w.heap.size + 1) S L ∧ SetAt wr w.heap.size (withU S L T most) ∧ Ext w wr) (fun _ wr => wr.rangeLeft bs (w.heap.size + 1))
  case atStart => exact ⟨S, hrg, hob, hx1⟩
  case round =>
    clear hrg hob hx1
    obtain ⟨L, hrg, hob, hx⟩ := hrel
    go_wp2_with (first | (at_next; refine wpList_set_next rfl _ rfl rfl hrg ?_ ?_) | go_in)
    · intro hL
      go_wp2
      go_ret
      refine ⟨_, rfl, Nat.le_refl _, hx, hob.congr (fun n => ?_)⟩
      constructor
      · rintro ⟨x, y, h1, _, h3⟩; exact ⟨x, y, h1, h3⟩
      · rintro ⟨x, y, h1, h3⟩
        have hb := (hrg.set.choose_spec.2).rng x h1
        exact ⟨x, y, h1, hL x (by omega) (by omega), h3⟩
    · intro x w2 hLx hSx hx0' hx1' hrg2 hleft hgr2 hsz2 hen
      clear hsz2
      have hxe : Ext w w2 := hx.grown hgr2 (fun k hk => by cases hk; omega)
      have hob2 : SetAt w2 w.heap.size (withU S L T most) := hob.kept hgr2 (by simp)
      have hT2 := hT.ext hxe
      have hsz3 := hxe.size
      have tok2 : True := trivial
      clear hrg hob hgr2
      go_wp2_with (first | (at_range; have _t := tok2; refine wpList_set_range rfl _ rfl rfl hT2 w2.heap.size rfl ?_; intro w3 hrgt hgr3 hsz3'; clear tok2; go_frame) | go_in)
      have hrl3 : w3.rangeLeft bs (w.heap.size + 1) = w2.rangeLeft bs (w.heap.size + 1) := rangeLeft_block (hgr3.block _ (by omega) (by simp)) (hgr3.block _ (by have := hrg2.lt; omega) (by simp))
      have hr1 := hrg2.lt
      have hrs3 := hrg2.kept hgr3 (by simp) (by simp)
      have hob3 : SetAt w3 w.heap.size (withV S L T T x most) := (hob2.kept hgr3 (by simp)).congr (fun n => (withV_start S L T x most n).symm)
      have hx3 := hxe.grown hgr3 (fun k hk => by cases hk)
      clear hrg2 hob2 hT2 hgr3 hsz3' _t hen
      go_loopw [9] (fun _ wr' => ∃ L2, RangeAt wr' bt w2.heap.size T L2 ∧ RangeAt wr' bs (w.heap.size + 1) S (fun z => L z ∧ z ≠ x) ∧ SetAt wr' w.heap.size (withV S L T L2 x most) ∧ Ext w wr' ∧ wr'.rangeLeft bs (w.heap.size + 1) = w2.rangeLeft bs (w.heap.size + 1)) (fun _ wr' => wr'.rangeLeft bt w2.heap.size)
      case atStart => exact ⟨T, hrgt, hrs3, hob3, hx3, hrl3⟩
      case round =>
        clear hrgt hrs3 hob3 hx3 hrl3
        obtain ⟨L2, hrt, hrs, hob, hx, hrl⟩ := hrel
        go_wp2_with (first | (at_next; refine wpList_set_next rfl _ rfl rfl hrt ?_ ?_) | go_in)
        · intro hL2
          go_wp2
          have hTn : ∀ n, T n → ¬ L2 n := fun n hn => by
            have hb := (hrt.set.choose_spec.2).rng n hn
            exact hL2 n (by omega) (by omega)
          refine ⟨?rel, ?measure⟩
          case rel => exact ⟨_, hrs, hob.congr (withV_end hSx hTn), hx⟩
          case measure => (rw [hrl]; exact hleft)
        · intro y w4 hLy hTy hy0 hy1 hrt4 hleft4 hgr4 hsz4 hen4
          clear hsz4
          have hrs4 := hrs.kept hgr4 (by simp; omega) (by simp; omega)
          have hob4 := hob.kept hgr4 (by simp; omega)
          have hx4 := hx.grown hgr4 (fun k hk => by cases hk; omega)
          have hrl4 : w4.rangeLeft bs (w.heap.size + 1) = w2.rangeLeft bs (w.heap.size + 1) := (rangeLeft_block (hgr4.block _ (by have := hx.size; omega) (by simp; omega)) (hgr4.block _ (by have := hrs.lt; omega) (by simp; omega))).trans hrl
          by_cases hxy : x + y ≤ most
          · have hd : decide (x + y ≤ most) = true := by simpa using hxy
            clear hrt hrs hob hgr4 hx hrl
            go_wp2_with (first | (at_mapUpdate; refine wpList_set_store rfl _ _ _ rfl rfl hob4 rfl rfl (by omega) (by omega) ?_; intro w5 hob5 hgr5; go_frame) | go_in)
            have hne : ¬ w2.heap.size = w.heap.size := by omega
            refine ⟨?rel, ?measure⟩
            case rel => exact ⟨_, hrt4.kept hgr5 (by simp; omega) (by simp; omega), hrs4.kept hgr5 (by simp; omega) (by simp), hob5.congr (fun n => by rw [withV_step hTy]; constructor; exact (fun h => h.imp id (fun e => ⟨e, by omega⟩)); exact (fun h => h.imp id (fun e => e.1))), hx4.grown hgr5 (fun k hk => by cases hk; omega), (rangeLeft_block (hgr5.block _ (by have := hx4.size; omega) (by simp; omega)) (hgr5.block _ (by have := hrs4.lt; omega) (by simp))).trans hrl4⟩
            case measure => (rw [rangeLeft_block (hgr5.block _ (by have := hx4.size; omega) (by simp; omega)) (hgr5.block _ (by have := hrt4.lt; omega) (by simp; omega))]; exact hleft4)
          · have hd : decide (x + y ≤ most) = false := by simpa using hxy
            clear hrt hrs hob hgr4 hx hrl
            go_wp2
            refine ⟨?rel, ?measure⟩
            case rel => exact ⟨_, hrt4, hrs4, hob4.congr (fun n => by rw [withV_step hTy]; constructor; exact .inl; exact (fun h => h.elim id (fun e => absurd e.2 (by omega)))), hx4, hrl4⟩
            case measure => exact hleft4
end Go.Proofs.YtbeophjdiddomaaGreatDoor

/- others: for each of some sets, the sums of a number of each other one. -/
namespace Go.Proofs.YtbeophjdiddomaaGreatDoor
open Go.RowKit

/-! ### In plain Lean -/
def zeroS : Int → Prop := fun n => n = 0
def setN (Ss : List (Int → Prop)) (i : Nat) : Int → Prop := Ss.getD i (fun _ => False)
/-- The sums of a number of each of the first k sets. -/
def befS (Ss : List (Int → Prop)) (most : Int) : Nat → Int → Prop
  | 0 => zeroS
  | k + 1 => withS (befS Ss most k) (setN Ss k) most
/-- .. of each of the last j sets. -/
def aftS (Ss : List (Int → Prop)) (most : Int) : Nat → Int → Prop
  | 0 => zeroS
  | j + 1 => withS (aftS Ss most j) (setN Ss (Ss.length - 1 - j)) most
def otherS (Ss : List (Int → Prop)) (most : Int) (i : Nat) : Int → Prop := withS (befS Ss most i) (aftS Ss most (Ss.length - 1 - i)) most

/-! ### In memory -/
abbrev mapV (b : Nat) : Value := .map (some b)
/-- A slice of sets. -/
def SetsAt (W : World) (v : Value) (Ss : List (Int → Prop)) : Prop := ∃ bs : List Nat, bs.length = Ss.length ∧ RowAt W v Ss.length (bs.map mapV) ∧ ∀ (i b : Nat), bs[i]? = some b → SetAt W b (setN Ss i)
theorem SetsAt.ext {W W' : World} {v : Value} {Ss : List (Int → Prop)} (h : SetsAt W v Ss) (k : Ext W W') : SetsAt W' v Ss := by
  obtain ⟨bs, h1, h2, h3⟩ := h
  exact ⟨bs, h1, h2.ext k, fun i b hb => (h3 i b hb).ext k⟩
theorem SetsAt.open {W : World} {v : Value} {Ss : List (Int → Prop)} (h : SetsAt W v Ss) : ∃ a c, v = .slice a Ss.length c ∧ Ss.length ≤ c ∧ c ≤ 9223372036854775807 ∧ ∀ i, i < Ss.length → ∃ b o m, a = some ⟨b, o, none⟩ ∧ W.cell? ⟨b, o + i, none⟩ = some (.map (some m)) ∧ SetAt W m (setN Ss i) := by
  obtain ⟨bs, h1, h2, h3⟩ := h
  obtain ⟨a, c, hv, r1, r2, r3⟩ := h2.open
  refine ⟨a, c, hv, r1, r2, fun i hi => ?_⟩
  have hb : bs[i]? = some bs[i] := by simp
  obtain ⟨b, o, ha, hc⟩ := r3 i (mapV bs[i]) (by rw [List.getElem?_map, hb]; rfl)
  exact ⟨b, o, bs[i], ha, hc, h3 i _ hb⟩
theorem info_set : (Tryz.prog.info? 130).map (fun i => (i.zero, i.size, i.bytes)) = some (some (.map none), 1, 8) := by kernel_rfl
theorem E_sets : Elem Tryz.prog 128 130 1 8 (.map none) := by
  obtain ⟨i, h1, h2, h3, h4⟩ := info_parts info_set
  exact ⟨Tryz.underlying128, ⟨i, h1, h2, h3, h4⟩, rfl, by decide⟩
theorem owns_one {w : World} {base : Nat} {e : TypeId} (x : Value) (hb : base ≤ w.heap.size) : (w.alloc (.cells #[x] e)).ownsRow base e 1 (.slice (some ⟨w.heap.size, 0, none⟩) 1 1) 1 [x] :=
  ⟨rfl, .inr ⟨w.heap.size, 1, #[x], rfl, hb, World.alloc_heap_new w _, Nat.le_refl _, one_le_maxLen, rfl, rfl⟩⟩
theorem SetAt.zero {W : World} {b : Nat} (h : SetAt W b (fun m => False ∨ m = 0)) : SetAt W b zeroS := h.congr (fun n => by simp [zeroS])
theorem setN_at {Ss : List (Int → Prop)} {i : Nat} {S : Int → Prop} (h : Ss[i]? = some S) : setN Ss i = S := by unfold setN; rw [List.getD_eq_getElem?_getD, h]; rfl

theorem set_ne_row {W : World} {b base : Nat} {e : TypeId} {size : Nat} {v : Value} {n : Nat} {xs : List Value} {S : Int → Prop} (h : SetAt W b S) (ho : W.ownsRow base e size v n xs) : some b ≠ v.ownBlock := by
  obtain ⟨o, hb, hc⟩ := h.obj
  rcases ho.2 with ⟨rfl, _⟩ | ⟨g, cap, cur, rfl, _, hg, _⟩
  · simp [Value.ownBlock]
  · intro e
    have : b = g := by simpa [Value.ownBlock] using e
    subst this
    rw [hb] at hg; cases hg; cases hc
/-- The slice before, when k sets have been gone through. -/
structure BefAt (Ss : List (Int → Prop)) (most : Int) (w : World) (g cap k : Nat) (bs : List Nat) (W : World) : Prop where
  own : W.ownsRow w.heap.size 130 1 (.slice (some ⟨g, 0, none⟩) (k + 1) cap) (k + 1) (bs.map mapV)
  len : bs.length = k + 1
  sets : ∀ (i b : Nat), bs[i]? = some b → SetAt W b (befS Ss most i)
theorem BefAt.ext {Ss : List (Int → Prop)} {most : Int} {w : World} {g cap k : Nat} {bs : List Nat} {W W' : World} (h : BefAt Ss most w g cap k bs W) (hx : Ext W W') : BefAt Ss most w g cap k bs W' :=
  ⟨owns_ext h.own hx, h.len, fun i b hb => (h.sets i b hb).ext hx⟩
theorem BefAt.kept {Ss : List (Int → Prop)} {most : Int} {w : World} {g cap k : Nat} {bs : List Nat} {W W' : World} {og : Nat} (h : BefAt Ss most w g cap k bs W) (hg : W.grownBy W' (some og)) (hn : g ≠ og) (hc : ∃ c e f, W.heap[og]? = some (.cells c e f)) : BefAt Ss most w g cap k bs W' :=
  ⟨h.own.kept hg (.inr (by simp [Value.ownBlock]; exact hn)), h.len, fun i b hb => (h.sets i b hb).kept hg (fun e => by
    obtain ⟨o, h1, h2⟩ := (h.sets i b hb).obj
    obtain ⟨c, t, f, h3⟩ := hc
    cases e; rw [h1] at h3; cases h3; cases h2)⟩

theorem bef_step {Ss : List (Int → Prop)} {most : Int} {w : World} {g cap k : Nat} {bs : List Nat} {W w2 w4 : World} {b2 g2 cap2 : Nat} (h : BefAt Ss most w g cap k bs W) (hx : Ext W w2) (hs : SetAt w2 b2 (withS (befS Ss most k) (setN Ss k) most))
    (hown : w4.ownsRow w.heap.size 130 1 (.slice (some ⟨g2, 0, none⟩) (k + 1 + 1) cap2) (k + 1 + 1) (bs.map mapV ++ [.map (some b2)])) (hg : (w2.alloc (.cells #[.map (some b2)] 130)).grownBy w4 (some g)) : BefAt Ss most w g2 cap2 (k + 1) (bs ++ [b2]) w4 := by
  have ho2 := owns_ext h.own hx
  have key : ∀ (b : Nat) (S : Int → Prop), SetAt w2 b S → SetAt w4 b S := fun b S hb => by
    have hn := set_ne_row hb ho2
    exact (hb.ext ((Ext.refl _).alloc _)).kept hg (by simpa [Value.ownBlock] using hn)
  refine ⟨by rw [List.map_append]; exact hown, by simp [h.len], fun i b hb => ?_⟩
  rcases Nat.lt_or_ge i (k + 1) with hi | hi
  · rw [List.getElem?_append_left (by rw [h.len]; exact hi)] at hb
    exact key b _ ((h.sets i b hb).ext hx)
  · have : i = k + 1 := by
      have := (List.getElem?_eq_some_iff.1 hb).1
      rw [List.length_append, h.len, List.length_singleton] at this; omega
    subst this
    rw [List.getElem?_append_right (by rw [h.len]; omega), h.len] at hb
    simp at hb; subst hb
    exact key _ _ hs

/-- The slice out, of which the places from q on are filled. -/
structure OutAt (Ss : List (Int → Prop)) (most : Int) (w : World) (og q : Nat) (outs : List Value) (W : World) : Prop where
  own : W.ownsRow w.heap.size 130 1 (.slice (some ⟨og, 0, none⟩) Ss.length Ss.length) Ss.length outs
  sets : ∀ j, q ≤ j → j < Ss.length → ∃ b, outs[j]? = some (mapV b) ∧ SetAt W b (otherS Ss most j)
theorem setCell_grown (w : World) (og j : Nat) (u : Value) : w.grownBy (w.setCell ⟨og, j, none⟩ u) (some og) :=
  ⟨rfl, rfl, rfl, by simp, fun k _ hk => Below.heap_setCell w ⟨og, j, none⟩ u k (fun e => hk (by simp [e]))⟩
theorem row_cells {W : World} {base : Nat} {e : TypeId} {og n c : Nat} {outs : List Value} (h : W.ownsRow base e 1 (.slice (some ⟨og, 0, none⟩) n c) n outs) : ∃ c e f, W.heap[og]? = some (.cells c e f) := by
  rcases h.2 with ⟨h', _⟩ | ⟨g, cap, cur, h', _, hg, _⟩
  · simp at h'
  · cases h'; exact ⟨_, _, _, hg⟩
theorem out_step {Ss : List (Int → Prop)} {most : Int} {w : World} {og p : Nat} {outs : List Value} {W : World} {b3 : Nat} (h : OutAt Ss most w og (p + 1) outs W) (hs : SetAt W b3 (otherS Ss most p)) (hp : p < Ss.length) :
    OutAt Ss most w og p (outs.set p (mapV b3)) (W.setCell ⟨og, p, none⟩ (mapV b3)) := by
  obtain ⟨h1, h2⟩ := h.own.stored p (mapV b3)
  have hn : ∀ (b : Nat) (S : Int → Prop), SetAt W b S → SetAt (W.setCell ⟨og, p, none⟩ (mapV b3)) b S := fun b S hb => hb.kept h2 (by have := set_ne_row hb h.own; simpa [Value.ownBlock] using this)
  have hlen : outs.length = Ss.length := by have := h.own.1; omega
  refine ⟨h1, fun j hj hjn => ?_⟩
  by_cases e : j = p
  · subst e; exact ⟨b3, by simp [hlen, hjn], hn _ _ hs⟩
  · obtain ⟨b, hb1, hb2⟩ := h.sets j (by omega) hjn
    exact ⟨b, by rw [List.getElem?_set_ne (by omega)]; exact hb1, hn _ _ hb2⟩
theorem OutAt.ext {Ss : List (Int → Prop)} {most : Int} {w : World} {og q : Nat} {outs : List Value} {W W' : World} (h : OutAt Ss most w og q outs W) (hx : Ext W W') : OutAt Ss most w og q outs W' :=
  ⟨owns_ext h.own hx, fun j h1 h2 => by obtain ⟨b, h3, h4⟩ := h.sets j h1 h2; exact ⟨b, h3, h4.ext hx⟩⟩
theorem out_done {Ss : List (Int → Prop)} {most : Int} {w : World} {og : Nat} {outs : List Value} {W : World} (h : OutAt Ss most w og 0 outs W) : ∃ bs : List Nat, bs.length = Ss.length ∧ bs.map mapV = outs ∧ ∀ (i b : Nat), bs[i]? = some b → SetAt W b (otherS Ss most i) := by
  have hlen : outs.length = Ss.length := by have := h.own.1; omega
  have key : ∀ n, n ≤ Ss.length → ∃ bs : List Nat, bs.length = n ∧ bs.map mapV = outs.take n ∧ ∀ (i b : Nat), bs[i]? = some b → SetAt W b (otherS Ss most i) := by
    intro n
    induction n with
    | zero => intro _; exact ⟨[], rfl, by simp, fun i b hb => by simp at hb⟩
    | succ n ih =>
      intro hn
      obtain ⟨bs, h1, h2, h3⟩ := ih (by omega)
      obtain ⟨b, hb1, hb2⟩ := h.sets n (Nat.zero_le _) (by omega)
      refine ⟨bs ++ [b], by simp [h1], by rw [List.map_append, h2, List.take_add_one, hb1]; rfl, fun i b' hb' => ?_⟩
      rcases Nat.lt_or_ge i n with hi | hi
      · rw [List.getElem?_append_left (by omega)] at hb'; exact h3 i b' hb'
      · rw [List.getElem?_append_right (by omega), h1] at hb'
        have : i = n := by
          have := (List.getElem?_eq_some_iff.1 hb').1
          simp at this; omega
        subst this
        simp at hb'; subst hb'; exact hb2
  obtain ⟨bs, h1, h2, h3⟩ := key Ss.length (Nat.le_refl _)
  exact ⟨bs, h1, by rw [h2, List.take_of_length_le (by omega)], h3⟩

set_option maxRecDepth 100000 in
set_option maxHeartbeats 8000000 in
theorem others_any (v : Value) (Ss : List (Int → Prop)) (most : Int) (w : World) (hv : SetsAt w v Ss) (h0 : 0 ≤ most) (h1 : most ≤ 20000) (hn : 1 ≤ Ss.length) (hn4 : Ss.length ≤ 4) :
    Calls Tryz.prog 82 #[v, .int .i64 most] w fun e w' => ∃ (rv : Value) (bs : List Nat), e = .returned rv ∧ Ext w w' ∧ bs.length = Ss.length ∧ w'.ownsRow w.heap.size 130 1 rv Ss.length (bs.map mapV) ∧ ∀ (i b : Nat), bs[i]? = some b → SetAt w' b (otherS Ss most i) := by
  obtain ⟨a, c, rfl, r1, r2, r3⟩ := hv.open
  have hmm := @run_makeMap Tryz.prog
  have hx0 : Ext w (w.alloc (.map #[] 0)) := (Ext.refl w).alloc _
  have hm0 := set_made w
  have R3 := Lib.hid r3
  have tok1 : True := trivial
  clear r3
  go_enter Tryz.func82, Tryz.ntmps82
  go_wp2_with (first | (have _t := tok1; refine wpList_set_insert rfl _ _ _ rfl rfl hm0 rfl rfl (by omega) (by omega) ?_; intro w1 hs1 hg1; clear tok1) | go_in)
  have hx1 : Ext w w1 := hx0.grown hg1 (fun k hk => by cases hk; exact Nat.le_refl _)
  have hB0 : BefAt Ss most w w1.heap.size 1 0 [w.heap.size] (w1.alloc (.cells #[.map (some w.heap.size)] 130)) :=
    ⟨owns_one _ hx1.size, rfl, fun i b hb => by
      cases i with
      | zero => simp at hb; subst hb; exact (hs1.zero).ext ((Ext.refl _).alloc _)
      | succ i => simp at hb⟩
  have hx2 : Ext w (w1.alloc (.cells #[.map (some w.heap.size)] 130)) := hx1.alloc _
  clear hs1 hg1 hm0 _t
  go_loopw [5, 17] (fun bv i wr => ∃ (k g cap : Nat) (bs : List Nat), k ≤ Ss.length ∧ i = .int .i64 k ∧ bv = .slice (some ⟨g, 0, none⟩) (k + 1) cap ∧ BefAt Ss most w g cap k bs wr ∧ Ext w wr) (fun _ i _ => Ss.length - (intOf i).toNat)
  case atStart => exact ⟨0, _, _, _, Nat.zero_le _, rfl, rfl, hB0, hx2⟩
  case round =>
    clear hB0 hx2 hx1
    obtain ⟨k, g, cap, bs, hk, rfl, rfl, hB, hx⟩ := hrel
    by_cases hlt : k < Ss.length
    · obtain ⟨ob, oo, m, rfl, hc, hm⟩ := R3.out k hlt
      have d0 := hx.cell hc
      have hbl := hB.len
      have hbk : bs[k]? = some (bs[k]'(by omega)) := by simp [hbl]
      have d1 := (hB.own.cellAt k (by omega)).trans (show (bs.map mapV)[k]? = some (.map (some (bs[k]'(by omega)))) by simp [mapV, hbl])
      obtain ⟨hcap, hcap2, hcap3⟩ := owns_cap hB.own
      have HW := Lib.hid (with_any (bs[k]'(by omega)) m (befS Ss most k) (setN Ss k) most wr (hB.sets k _ (by simp [hbl])) (hm.ext hx) h0 h1)
      generalize hbb : (bs[k]'(by omega)) = bk at d1 HW
      have hsz5 : k + 1 + 1 ≤ maxLen ∧ (k + 1 + 1) * 8 ≤ 140737488355328 := by unfold maxLen; omega
      have HSZ := Lib.hid hsz5
      have HB := Lib.hid hB
      have hxs := hx.size
      clear hB hm hc hbb hbk hsz5 hbl
      go_wp2_with (first
        | (go_at_call 109; refine HW.out.mono ?_; rintro e w2 ⟨b2, rfl, hb2, hx2, hs2⟩; have hbz := Nat.le_trans hxs hx2.size)
        | (at_builtin; refine wpList_push_at E_sets rfl _ _ rfl w.heap.size rfl (owns_ext HB.out.own hx2) rfl rfl rfl (by simp [Value.oneCell']) ?_ HSZ.out.1 HSZ.out.2 hbz; intro g2 cap2 w4 hown4 hext4 hg4 hloc4)
        | go_in)
      exact ⟨⟨k + 1, g2, cap2, _, by omega, by go_num, rfl, bef_step HB.out hx2 hs2 hown4 hg4, hext4 w (hx.trans hx2) (Nat.le_refl _)⟩, by simp [intOf]; omega⟩
    · have hke : k = Ss.length := by omega
      subst hke
      have hmA := set_made wr
      have tok2 : True := trivial
      obtain ⟨i0, hi, hz0, hz1, hz2⟩ := info_parts info_set
      have HSB := Lib.hid (show i0.bytes * Ss.length ≤ 281474976710656 ∧ Ss.length ≤ maxLen by rw [hz2]; unfold maxLen; omega)
      clear hlt hk
      go_wp2_with (first
        | (have _t := tok2; refine wpList_set_insert rfl _ _ _ rfl rfl hmA rfl rfl (by omega) (by omega) ?_; intro w3 hs3 hg3; clear tok2)
        | (refine wpList_make_full _ rfl _ _ _ rfl w.heap.size _ i0 _ 1 Tryz.underlying128 hi hz0 hz1 .i64 .i64 _ _ Ss.length rfl rfl rfl rfl HSB.out.1 HSB.out.2 (by have h3 := hg3.size; rw [World.size_alloc] at h3; have := hx.size; omega) ?_; intro w5 hown5 hg5)
        | go_in)
      have hx3 : Ext wr w3 := ((Ext.refl wr).alloc _).grown hg3 (fun k hk => by cases hk; exact Nat.le_refl _)
      have hx5 : Ext w3 w5 := (Ext.refl w3).grown hg5 (fun k hk => by cases hk)
      have hB5 := (hB.ext hx3).ext hx5
      have hA5 := (hs3.zero).ext hx5
      have hxw5 := (hx.trans hx3).trans hx5
      have hO5 : OutAt Ss most w w3.heap.size Ss.length (madeCells (Value.map none).cells (Ss.length * 1)).toList w5 := ⟨hown5, fun j h1 h2 => by omega⟩
      have hgo : g ≠ w3.heap.size := by have := (World.ownsRow.lt hB.own g rfl).2; have := hx3.size; omega
      have hog : w.heap.size ≤ w3.heap.size := (hx.trans hx3).size
      generalize w3.heap.size = og at hO5 hgo hog hown5
      obtain ⟨hcap, hcap2, hcap3⟩ := owns_cap hB.own
      clear hB hs3 hg3 hg5 hown5 hx3 hx5 hmA HSB hi hz0 hz1 hz2 hx _t
      go_loopw [9, 11] (fun av i wq => ∃ (q ab : Nat) (outs : List Value), q ≤ Ss.length ∧ i = .int .i64 ((q : Int) - 1) ∧ av = .map (some ab) ∧ SetAt wq ab (aftS Ss most (Ss.length - q)) ∧ OutAt Ss most w og q outs wq ∧ BefAt Ss most w g cap Ss.length bs wq ∧ Ext w wq) (fun _ i _ => ((intOf i) + 1).toNat)
      case atStart => exact ⟨Ss.length, _, _, Nat.le_refl _, rfl, rfl, by rw [Nat.sub_self]; exact hA5, hO5, hB5, hxw5⟩
      case round =>
        clear hA5 hO5 hB5 hxw5
        obtain ⟨q, ab, outs, hq, hi, rfl, hA, hO, hB, hx⟩ := hrel
        cases q with
        | zero =>
          have hi' : u11 = .int .i64 (-1) := by rw [hi]; rfl
          subst hi'
          obtain ⟨rs, hrs1, hrs2, hrs3⟩ := out_done hO
          have hrow := hO.own
          rw [← hrs2] at hrow
          have HFIN := Lib.hid (And.intro hx (And.intro hrs1 (And.intro hrow hrs3)))
          clear hi hA hO hB hx hrs1 hrs2 hrow hrs3
          go_wp2
          go_ret
          exact ⟨_, rs, rfl, HFIN.out.1, HFIN.out.2.1, HFIN.out.2.2.1, HFIN.out.2.2.2⟩
        | succ p =>
          have hi' : u11 = .int .i64 (p : Int) := by rw [hi]; congr 1; omega
          subst hi'
          clear hi
          obtain ⟨ob, oo, m, rfl, hc, hm⟩ := R3.out p (by omega)
          have hbl := hB.len
          have d1 := (hB.own.cellAt p (by omega)).trans (show (bs.map mapV)[p]? = some (.map (some (bs[p]'(by omega)))) by simp [mapV, show p < bs.length by omega])
          have hsb := hB.sets p _ (show bs[p]? = some (bs[p]'(by omega)) by simp [show p < bs.length by omega])
          generalize (bs[p]'(by omega)) = bp at d1 hsb
          have hol : outs.length = Ss.length := by have := hO.own.1; omega
          obtain ⟨ou, hou⟩ : ∃ ou, outs[p]? = some ou := ⟨_, List.getElem?_eq_getElem (by omega)⟩
          have HW1 := Lib.hid (with_any bp ab (befS Ss most p) (aftS Ss most (Ss.length - (p + 1))) most wr hsb hA h0 h1)
          have hstep : ∀ (w6 : World) (b3 : Nat), Ext wr w6 → SetAt w6 b3 (withS (befS Ss most p) (aftS Ss most (Ss.length - (p + 1))) most) →
              OutAt Ss most w og p (outs.set p (mapV b3)) (w6.setCell ⟨og, p, none⟩ (mapV b3)) ∧ BefAt Ss most w g cap Ss.length bs (w6.setCell ⟨og, p, none⟩ (mapV b3)) ∧ Ext w (w6.setCell ⟨og, p, none⟩ (mapV b3)) ∧ SetAt (w6.setCell ⟨og, p, none⟩ (mapV b3)) ab (aftS Ss most (Ss.length - (p + 1))) := fun w6 b3 h6 h3 => by
            have hO6 := hO.ext h6
            have hg6 := setCell_grown w6 og p (mapV b3)
            refine ⟨out_step hO6 (by unfold otherS; rw [show Ss.length - 1 - p = Ss.length - (p + 1) by omega]; exact h3) (by omega), (hB.ext h6).kept hg6 hgo (row_cells hO6.own), (hx.trans h6).grown hg6 (fun k hk => by cases hk; exact hog), (hA.ext h6).kept hg6 (by have := set_ne_row (hA.ext h6) hO6.own; simpa [Value.ownBlock] using this)⟩
          have HSTEP := Lib.hid hstep
          have HW2 := Lib.hid (fun (w6 : World) (b3 : Nat) h6 h3 => with_any ab m (aftS Ss most (Ss.length - (p + 1))) (setN Ss p) most (w6.setCell ⟨og, p, none⟩ (mapV b3)) (hstep w6 b3 h6 h3).2.2.2 (hm.ext (hstep w6 b3 h6 h3).2.2.1) h0 h1)
          have HO := Lib.hid hO
          have HC := Lib.hid hc
          have tok3 : True := trivial
          have hp1 : (p : Int) < (Ss.length : Int) := by omega
          have hp2 : (p : Int) < (Ss.length : Int) + 1 := by omega
          have hp3 : (0 : Int) ≤ (p : Int) := by omega
          clear hO hB hA hm hsb hstep hc hol hbl
          go_wp2_with (first
            | (go_at_call 109; have _t := tok3; clear tok3; refine HW1.out.mono ?_; rintro e w6 ⟨b3, rfl, hb3, hx6, hs6⟩; have z0 := ((owns_ext HO.out.own hx6).cellAt p (by omega)).trans hou; have z1 := (owns_ext HO.out.own hx6).frozenAt p; have hst := HSTEP.out w6 b3 hx6 hs6; have y0 : (w6.setCell ⟨og, p, none⟩ (.map (some b3))).cell? ⟨ob, oo + p, none⟩ = some (.map (some m)) := hst.2.2.1.cell HC.out; have hsm := HW2.out w6 b3 hx6 hs6; have HSM := Lib.hid hsm; have HST := Lib.hid hst; clear hst hsm)
            | (go_at_call 109; refine HSM.out.mono ?_; rintro e w8 ⟨b4, rfl, hb4, hx8, hs8⟩)
            | go_in)
          have hst := HST.out
          refine ⟨⟨p, b4, _, by omega, by go_num, rfl, ?_, hst.1.ext hx8, hst.2.1.ext hx8, hst.2.2.1.trans hx8⟩, by simp [intOf]⟩
          rw [show Ss.length - p = (Ss.length - (p + 1)) + 1 by omega]
          show SetAt w8 b4 (withS (aftS Ss most (Ss.length - (p + 1))) (setN Ss (Ss.length - 1 - (Ss.length - (p + 1)))) most)
          rw [show Ss.length - 1 - (Ss.length - (p + 1)) = p by omega]
          exact hs8
end Go.Proofs.YtbeophjdiddomaaGreatDoor
