/- The memo of the best packs: a map in memory. -/
import Derived.Test.YtokananogogjaaaGreatDoorObt
import Derived.Test.YtokananogogjaaaGreatDoorOpk
import Derived.Test.YtokananogogjaaaGreatDoorOp
import Derived.Maps.OwnSet
import Derived.Maps.OwnIn
import Derived.Maps.RangeWalk
import Derived.Test.YtokananogogjaaaGreatDoorOaq
namespace Go.Proofs.YtokananogogjaaaGreatDoor
open Go.RowKit
open Go.Maps (Keyed keyOf_int_mk Tidy IsMap)
open Go.WideElems (rg)
theorem pk_small {ks : List (Int × Int)} (hK : PacksB ks) {n : Nat} (hn : n ≤ 600) : SmallK (pkAt ks n).1 ∧ 0 ≤ (pkAt ks n).2 ∧ (pkAt ks n).2 ≤ 600000 ∧ (pkAt ks n).1.length = ks.length ∧ ∀ x, x ∈ (pkAt ks n).1 → 0 ≤ x ∧ x ≤ 600 := by
 have h := pk_ok hK n
 have h4 := hK.n4
 refine ⟨⟨by rw [h.tak.len]; omega, fun x hx => ⟨h.tak.pos x hx, ?_⟩⟩, ?_, ?_, h.tak.len, fun x hx => ⟨h.tak.pos x hx, by have h1 := le_sum' h.tak.pos hx; have h2 := h.many; omega⟩⟩
 ·have h1 := le_sum' h.tak.pos hx
  have h2 := h.many
  omega
 ·rw [h.price]
  exact (holds_nonneg (fun k hk => by have := hK.all k hk; omega) h.tak.pos).2
 ·rw [h.price]
  have key : ∀ (ks : List (Int × Int)) (c : List Int), (∀ k, k ∈ ks → 0 ≤ k.2 ∧ k.2 ≤ 1000) → (∀ x, x ∈ c → 0 ≤ x) → c.length = ks.length → priceOf ks c ≤ 1000 * c.sum := by
   intro ks
   induction ks with
   | nil => intro c _ hc hl; cases c with | nil => simp [priceOf] | cons x c => simp at hl
   | cons k ks ih =>
    intro c hk hc hl
    cases c with
    | nil => simp at hl
    | cons x c =>
     have h1 := ih c (fun k hk' => hk k (by simp [hk'])) (fun y hy => hc y (by simp [hy])) (by simpa using hl)
     have h2 := hk k (by simp)
     have h3 := hc x (by simp)
     have h4 : x * k.2 ≤ x * 1000 := Int.mul_le_mul_of_nonneg_left h2.2 h3
     simp only [priceOf, List.sum_cons]
     omega
  have h1 := key ks (pkAt ks n).1 (fun k hk => by have := hK.all k hk; omega) h.tak.pos h.tak.len
  have h2 := h.many
  omega
def pkElem : Value → Option (DataW Value × List MemPlace)
 | .agg cs => match cs.toList with
  | [.slice a n c, .int .i64 p] => some (.held (.agg #[.slice a n c, .int .i64 p]), [])
  | _ => none
 | _ => none
theorem pkElem_mk (a : Option Addr) (n c : Nat) (p : Int) : pkElem (.agg #[.slice a n c, .int .i64 p]) = some (.held (.agg #[.slice a n c, .int .i64 p]), []) := rfl
theorem pkElem_inv {v : Value} {z : DataW Value × List MemPlace} (h : pkElem v = some z) : ∃ a n c p, v = .agg #[.slice a n c, .int .i64 p] ∧ z = (.held (.agg #[.slice a n c, .int .i64 p]), []) := by
 unfold pkElem at h
 split at h
 ·split at h
  ·rename_i cs _ a n c p hcs
   refine ⟨a, n, c, p, ?_, (Option.some.inj h).symm⟩
   congr 1
   exact Array.toList_inj.1 hcs
  ·cases h
 ·cases h
theorem memo_law : Keyed Tryz.prog 3 := Go.Maps.int_keyed Tryz.underlying3
theorem zeroPacked (w : World) : (zeroValue 121).run Tryz.prog w = .ok (.agg #[.slice none 0 0, .int .i64 0]) w := by kernel_rfl
theorem wfK {n : Nat} (h : n < 65536) : (Lit.int .i64 (n : Int)).wf = true := WalkArith.wf_i64 (by omega)
/-- A list in a block of ints of its own. -/
def OwnI (W : World) (v : Value) (xs : List Int) : Prop := W.ownsRow 0 3 1 v xs.length (xs.map (.int .i64))
theorem OwnI.ints {W : World} {v : Value} {xs : List Int} (h : OwnI W v xs) : IntsAt W v xs := RowAt.of_owns h
theorem OwnI.ext {W W' : World} {v : Value} {xs : List Int} (h : OwnI W v xs) (k : Ext W W') : OwnI W' v xs := owns_ext h k
/-- No block of M is one of ints. -/
def NotInts (W : World) (M : Nat → Prop) : Prop := ∀ j, M j → ∀ cur fr, W.heap[j]? ≠ some (.cells cur 3 fr)
theorem OwnI.touch {W W' : World} {v : Value} {xs : List Int} {M : Nat → Prop} (h : OwnI W v xs) (k : Touch M W W') (hn : NotInts W M) : OwnI W' v xs := by
 refine owns_touch h k (fun g hg hM => ?_)
 obtain ⟨_, ⟨rfl, _⟩ | ⟨g', cap, cur, rfl, _, hh, _⟩⟩ := h
 ·cases hg
 ·cases hg
  exact hn _ hM _ _ hh
theorem OwnI.of {W : World} {b : Nat} {v : Value} {xs : List Int} (h : W.ownsRow b 3 1 v xs.length (xs.map (.int .i64))) : OwnI W v xs := ⟨h.1, h.2.elim .inl (fun ⟨g, cap, cur, a, _, c⟩ => .inr ⟨g, cap, cur, a, Nat.zero_le _, c⟩)⟩
/-- D holds the best packs for some numbers of pieces, and nothing else. -/
def MemoD (D : DataW Value) (W : World) (ks : List (Int × Int)) : Prop := ∀ n, (Lit.int .i64 n).wf = true → Maps.has D (.int .i64 n) = true → ∃ (p : Nat) (v : Value), p ≤ 600 ∧ n = p ∧ (∀ z, D.atKey (.int .i64 n) z = .held (.agg #[v, .int .i64 (pkAt ks p).2])) ∧ OwnI W v (pkAt ks p).1
def MemoAt (W : World) (mb : Nat) (ks : List (Int × Int)) : Prop := ∃ D : DataW Value, W.ownsMap Tryz.prog 3 pkElem mb 601 D ∧ MemoD D W ks
theorem MemoAt.obj {W : World} {mb : Nat} {ks : List (Int × Int)} (h : MemoAt W mb ks) : ∃ es clock, W.heap[mb]? = some (.map es clock) := by
 obtain ⟨D, ⟨es, clock, hb, _⟩, _⟩ := h; exact ⟨es, clock, hb⟩
theorem MemoAt.lt {W : World} {mb : Nat} {ks : List (Int × Int)} (h : MemoAt W mb ks) : mb < W.heap.size := by
 obtain ⟨_, _, hb⟩ := h.obj; exact (Array.getElem?_eq_some_iff.1 hb).1
/-- No cell lies in the map's block. -/
theorem MemoAt.ne {W : World} {mb : Nat} {ks : List (Int × Int)} (h : MemoAt W mb ks) {a : Addr} {v : Value} (hc : W.cell? a = some v) : ¬ a.block = mb := by
 obtain ⟨_, _, hb⟩ := h.obj
 intro e
 unfold World.cell? at hc
 rw [e, hb] at hc
 cases hc
theorem MemoAt.ext {W W' : World} {mb : Nat} {ks : List (Int × Int)} (h : MemoAt W mb ks) (k : Ext W W') : MemoAt W' mb ks := by
 have hl := h.lt
 obtain ⟨D, ⟨es, clock, hb, r⟩, h2⟩ := h
 refine ⟨D, ⟨es, clock, (k.block hl).trans hb, r⟩, fun n h3 h4 => ?_⟩
 obtain ⟨p, v, a1, a2, a3, a4⟩ := h2 n h3 h4
 exact ⟨p, v, a1, a2, a3, a4.ext k⟩
theorem MemoAt.touch {W W' : World} {mb : Nat} {ks : List (Int × Int)} {M : Nat → Prop} (h : MemoAt W mb ks) (k : Touch M W W') (hm : ¬ M mb) (hn : NotInts W M) : MemoAt W' mb ks := by
 obtain ⟨D, ⟨es, clock, hb, r⟩, h2⟩ := h
 refine ⟨D, ⟨es, clock, k.keep _ _ hb hm, r⟩, fun n h3 h4 => ?_⟩
 obtain ⟨p, v, a1, a2, a3, a4⟩ := h2 n h3 h4
 exact ⟨p, v, a1, a2, a3, a4.touch k hn⟩
theorem MemoAt.not {W : World} {mb : Nat} {ks : List (Int × Int)} (h : MemoAt W mb ks) : NotInts W (· = mb) := by
 obtain ⟨_, _, hb⟩ := h.obj
 rintro j rfl cur fr he
 rw [hb] at he; cases he
/-- Rows of any kind do not lie in a map's block. -/
theorem row_memo {w w' : World} {mb n : Nat} {ks : List (Int × Int)} {v : Value} {cs : List Value} (h : RowAt w v n cs) (hm : MemoAt w mb ks) (k : Touch (· = mb) w w') : RowAt w' v n cs := by
 obtain ⟨a, c, rfl, h1, h2, h0, h3⟩ := h
 exact ⟨a, c, rfl, h1, h2, h0, fun j u hj => by
  obtain ⟨b, o, rfl, hc⟩ := h3 j u hj
  exact ⟨b, o, rfl, k.cell hc (hm.ne hc)⟩⟩
theorem memo_made (w : World) (ks : List (Int × Int)) : MemoAt (w.alloc (.map #[] 0)) w.heap.size ks :=
 ⟨.map [], (World.ownsMap_made w _ _ _).mono (by omega), fun n _ h => by simp [Maps.has] at h⟩
theorem memo_tight {W : World} {mb n : Nat} {D : DataW Value} {W' : World} {ks : List (Int × Int)} (h : W.ownsMap Tryz.prog 3 pkElem mb n D) (hd : MemoD D W' ks) : W.ownsMap Tryz.prog 3 pkElem mb 601 D := by
 obtain ⟨es, clock, hb, F, hn, rfl⟩ := h
 refine ⟨es, clock, hb, F, ?_, rfl⟩
 have hown : W.ownsMap Tryz.prog 3 pkElem mb n (.map ((es.toList.map (rg Tryz.prog 3 pkElem)).foldr DataW.insert [])) := ⟨es, clock, hb, F, hn, rfl⟩
 obtain ⟨L, hL, hpw, _⟩ := hown.entries memo_law
 have hLl : L = (es.toList.map (rg Tryz.prog 3 pkElem)).foldr DataW.insert [] := by cases hL; rfl
 have hlen : L.length = es.size := by rw [hLl]; simp [length_sorted]
 have hkeys : Go.Maps.Keys (Go.Maps.KeysOf Tryz.prog 3) (es.toList.map (rg Tryz.prog 3 pkElem)) := Go.Maps.fit_keys F
 have hsub : (L.map (·.1)) ⊆ (List.range 601).map (fun (i : Nat) => Lit.int .i64 i) := by
  intro l hl
  obtain ⟨p, hp, rfl⟩ := List.mem_map.1 hl
  have hp' : p ∈ es.toList.map (rg Tryz.prog 3 pkElem) := mem_sorted.1 (hLl ▸ hp)
  obtain ⟨v, hv⟩ := hkeys p hp'
  obtain ⟨x, rfl, hx, hw⟩ := Maps.keyOf_int_inv Tryz.underlying3 hv
  have hh : Maps.has (.map L : DataW Value) (.int .i64 x) = true := by
   rw [Maps.has_eq, List.any_eq_true]
   exact ⟨p, hp, by rw [hx]; simp [Lit.sameKey]⟩
  obtain ⟨q, _, hq, rfl, _⟩ := hd x hw (by rw [← hL] at hh; exact hh)
  rw [hx]
  exact List.mem_map.2 ⟨q, List.mem_range.2 (by omega), rfl⟩
 have hnd : (L.map (·.1)).Nodup := by
  rw [List.nodup_iff_pairwise_ne, List.pairwise_map]; exact hpw
 have := hnd.length_le_of_subset hsub
 simp at this
 omega
theorem memo_put {D : DataW Value} {W : World} {ks : List (Int × Int)} (h : MemoD D W ks) (hm : IsMap D) {p : Nat} (hp : p ≤ 600) {v : Value} (hv : OwnI W v (pkAt ks p).1) : MemoD (D.put (.int .i64 p) (.held (.agg #[v, .int .i64 (pkAt ks p).2]))) W ks := by
 have hk : WideAt.IsKeyLit (Lit.int .i64 p) := memo_law.key (keyOf_int_mk Tryz.underlying3 (wfK (by omega)))
 intro n hw hh
 by_cases e : n = (p : Int)
 ·subst e; exact ⟨p, v, hp, rfl, fun z => Maps.atKey_put_same hm hk _ _, hv⟩
 ·rw [Maps.has_put_other (fun h => e (by cases h; rfl))] at hh
  obtain ⟨m, u, h1, h2, h3, h4⟩ := h n hw hh
  exact ⟨m, u, h1, h2, fun z => by rw [Maps.atKey_put_other (fun h => e (by cases h; rfl))]; exact h3 z, h4⟩
section laws
variable {ops : Array Oper} {rest : List Oper} {o : Oper} {a : Act} {Q : Exit → Act → World → Prop} {w : World}
theorem wpList_memo_store (hg : o.guard = none) (m x v : Operand) (hop : o.op = Op.mapUpdate 122 m x v) {mb : Nat} {ks : List (Int × Int)} {p : Nat} (hm : a.eval m = .map (some mb)) (hown : MemoAt w mb ks) (hp : p ≤ 600) {k : Int} (hk : k = (p : Int)) (hx : a.eval x = .int .i64 k) {aa : Option Addr} {n c : Nat} {q : Int} (hv : a.eval v = .agg #[.slice aa n c, .int .i64 q]) (hq : q = (pkAt ks p).2) (hi : OwnI w (.slice aa n c) (pkAt ks p).1)
  (hK : ∀ w', MemoAt w' mb ks → w.grownBy w' (some mb) → wpList Tryz.prog ops Q rest (a.put o.dst undef) w') : wpList Tryz.prog ops Q (o :: rest) a w := by
 have hm0 := hown
 obtain ⟨D, h2, h3⟩ := hown
 subst hk
 refine wpList_mapUpdate_own w hg m x v _ hop 3 121 memo_law Tryz.underlying122 pkElem mb 601 D hm h2 (by unfold maxLen; omega) _ _ _ hx hv (keyOf_int_mk Tryz.underlying3 (wfK (by omega))) _ [] (pkElem_mk aa n c q) (fun w' h4 h5 => hK w' ?_ h5)
 have h6 := memo_put h3 h2.isMap hp hi
 rw [← hq] at h6
 have hT : Touch (· = mb) w w' := Touch.grown h5 (fun k hk => by cases hk; rfl)
 have h7 : MemoD (D.put (.int .i64 p) (.held (.agg #[.slice aa n c, .int .i64 q]))) w' ks := fun n h8 h9 => by
  obtain ⟨p', v', a1, a2, a3, a4⟩ := h6 n h8 h9
  exact ⟨p', v', a1, a2, a3, a4.touch hT hm0.not⟩
 exact ⟨_, memo_tight h4 h7, h7⟩
theorem wpList_memo_lookup (hg : o.guard = none) (m x : Operand) (hop : o.op = Op.lookup 122 m x true) {mb : Nat} {ks : List (Int × Int)} {p : Nat} (hm : a.eval m = .map (some mb)) (hown : MemoAt w mb ks) (hp : p ≤ 600) {k : Int} (hk : k = (p : Int)) (hx : a.eval x = .int .i64 k)
  (hK : ∀ (cb : Bool) (aa : Option Addr) (n c : Nat) (q : Int), (cb = true → q = (pkAt ks p).2 ∧ OwnI w (.slice aa n c) (pkAt ks p).1) → wpList Tryz.prog ops Q rest (a.put o.dst (.tuple #[.agg #[.slice aa n c, .int .i64 q], .bool cb])) w) : wpList Tryz.prog ops Q (o :: rest) a w := by
 obtain ⟨D, h2, h3⟩ := hown
 subst hk
 refine wpList_lookup_own_ok w hg m x _ hop 3 121 memo_law Tryz.underlying122 pkElem (zeroPacked w) _ [] (pkElem_mk none 0 0 0) mb 601 D hm h2 _ _ hx (keyOf_int_mk Tryz.underlying3 (wfK (by omega))) ?_
 intro v ps hv
 obtain ⟨aa, n, c, q, rfl, hz⟩ := pkElem_inv hv
 refine hK _ aa n c q (fun hh => ?_)
 obtain ⟨p', v', h4, h5, h6, h7⟩ := h3 _ (wfK (by omega)) hh
 have h8 : p' = p := by omega
 subst h8
 rw [h6] at hz
 simp only [Prod.mk.injEq, DataW.held.injEq, Value.agg.injEq] at hz
 have h9 := congrArg Array.toList hz.1
 simp at h9
 exact ⟨h9.2.symm, by rw [← h9.1]; exact h7⟩
end laws
end Go.Proofs.YtokananogogjaaaGreatDoor

/- The best packs: the search, with its memo. -/
namespace Go.Proofs.YtokananogogjaaaGreatDoor
open Go.RowKit
def pkP (ks : List (Int × Int)) (p : Int) : Pk := pkAt ks p.toNat
def PkCall (ks : List (Int × Int)) (ka : Option Addr) (kc mb : Nat) (N : Nat) : Prop := ∀ (p : Int) (w : World), -200 ≤ p → p ≤ N → RowOf packC w (.slice ka ks.length kc) ks → MemoAt w mb ks →
 Calls Tryz.prog 64 #[.agg #[.slice ka ks.length kc, .map (some mb)], .int .i64 p] w fun e w' => ∃ a n c, e = .returned (.agg #[.slice a n c, .int .i64 (pkP ks p).2]) ∧ Touch (· = mb) w w' ∧ MemoAt w' mb ks ∧ OwnI w' (.slice a n c) (pkP ks p).1
theorem E_packed : Elem Tryz.prog 155 121 2 32 (.agg #[.slice none 0 0, .int .i64 0]) := by
 obtain ⟨i, h1, h2, h3, h4⟩ := info_parts (P := Tryz.prog) (e := 121) (z := .agg #[.slice none 0 0, .int .i64 0]) (size := 2) (bytes := 32) (by kernel_rfl)
 exact ⟨Tryz.underlying155, ⟨i, h1, h2, h3, h4⟩, rfl, by decide⟩
theorem own_form {W : World} {v : Value} {xs : List Int} (h : OwnI W v xs) : ∃ a n c, v = .slice a n c := by
 obtain ⟨_, ⟨rfl, _⟩ | ⟨g, cap, cur, rfl, _⟩⟩ := h <;> exact ⟨_, _, _, rfl⟩
theorem pk_type : 121 ≠ 3 := by decide
/-- The candidates so far. -/
structure PbI (ks : List (Int × Int)) (ka : Option Addr) (kc mb : Nat) (w : World) (f : Int → Pk) (k : Nat) (o : Value) (W : World) (qs : List PkR) : Prop where
 t : Touch (· = mb) w W
 memo : MemoAt W mb ks
 box : W.heap[w.heap.size]? = some (.cells #[.slice ka ks.length kc, .map (some mb)] 124)
 res : W.heap[w.heap.size + 1]? = some (.cells #[.slice none 0 0, .int .i64 0] 121)
 own : W.ownsRow (w.heap.size + 3) 121 2 o k (qs.flatMap pkrC)
 len : qs.length = k
 rs : qs.map (fun q => q.p) = (candFrom f 0 ks).take k
 ms : ∀ q, q ∈ qs → OwnI W q.v q.p.1
theorem PbI.ext {ks : List (Int × Int)} {ka : Option Addr} {kc mb : Nat} {w : World} {f : Int → Pk} {k : Nat} {o : Value} {W W' : World} {qs : List PkR} (h : PbI ks ka kc mb w f k o W qs) (x : Ext W W') : PbI ks ka kc mb w f k o W' qs :=
 ⟨h.t.trans (Touch.of_ext x), h.memo.ext x, (x.block (Array.getElem?_eq_some_iff.1 h.box).1).trans h.box, (x.block (Array.getElem?_eq_some_iff.1 h.res).1).trans h.res, owns_ext h.own x, h.len, h.rs, fun q hq => (h.ms q hq).ext x⟩
/-- Behind a call of best itself. -/
theorem PbI.call {ks : List (Int × Int)} {ka : Option Addr} {kc mb : Nat} {w : World} {f : Int → Pk} {k : Nat} {o : Value} {W W' : World} {qs : List PkR} (h : PbI ks ka kc mb w f k o W qs) (hmb : mb < w.heap.size) (x : Touch (· = mb) W W') (hm : MemoAt W' mb ks) : PbI ks ka kc mb w f k o W' qs :=
 ⟨h.t.trans x, hm, x.keep _ _ h.box (by omega), x.keep _ _ h.res (by omega), owns_touch h.own x (fun g hg he => by have := owns_block h.own g hg; omega), h.len, h.rs, fun q hq => (h.ms q hq).touch x h.memo.not⟩
theorem owns_not {W : World} {base : Nat} {v : Value} {n size : Nat} {xs : List Value} {e : TypeId} (he : e ≠ 3) (h : W.ownsRow base e size v n xs) : NotInts W (fun g => v.ownBlock = some g) := by
 intro g hg cur fr hh
 obtain ⟨_, ⟨rfl, _⟩ | ⟨g', cap, cur', rfl, _, hh', _⟩⟩ := h
 ·cases hg
 ·cases hg
  rw [hh'] at hh
  cases hh
  exact he rfl
/-- One candidate more: W4 holds its list, then it is raised and pushed. -/
theorem PbI.push {ks : List (Int × Int)} {ka : Option Addr} {kc mb : Nat} {w : World} {f : Int → Pk} {k : Nat} {o : Value} {W W5 : World} {qs : List PkR} {g cap : Nat} {x : PkR} {ds : Array Value} {e' : TypeId} (h : PbI ks ka kc mb w f k o W qs) (hmb : mb < w.heap.size)
  (hx : OwnI W x.v x.p.1) (hc : (candFrom f 0 ks)[k]? = some x.p)
  (hown5 : W5.ownsRow (w.heap.size + 3) 121 2 (.slice (some ⟨g, 0, none⟩) (k + 1) cap) (k + 1) ((qs.flatMap pkrC) ++ pkrC x)) (hg5 : (W.alloc (.cells ds e')).grownBy W5 o.ownBlock) :
  PbI ks ka kc mb w f (k + 1) (.slice (some ⟨g, 0, none⟩) (k + 1) cap) W5 (qs ++ [x]) := by
 have hT : Touch (fun j => o.ownBlock = some j) W W5 := (Touch.of_ext ((Ext.refl W).alloc _)).trans (Touch.grown hg5 (fun k hk => hk))
 have hn := owns_not pk_type h.own
 have hb := owns_block h.own
 refine ⟨Touch.of_new (N := fun j => j = mb ∨ w.heap.size ≤ j) ((h.t.mono (fun j hj => .inl hj)).trans (hT.mono (fun j hj => .inr (by have := hb _ hj; omega)))) (fun j hj hl => hj.elim id (fun h => by omega)), h.memo.touch hT (fun hm => by have := hb _ hm; omega) hn, hT.keep _ _ h.box (fun hj => by have := hb _ hj; omega), hT.keep _ _ h.res (fun hj => by have := hb _ hj; omega), ?_, by rw [List.length_append, h.len]; rfl, ?_, fun q hq => ?_⟩
 ·rw [List.flatMap_append]
  simpa using hown5
 ·rw [List.map_append, h.rs, List.take_add_one, hc]; rfl
 ·rcases List.mem_append.1 hq with hq | hq
  ·exact (h.ms q hq).touch hT hn
  ·rw [List.mem_singleton] at hq
   subst hq
   exact hx.touch hT hn
theorem best_mapG {α β : Type} {lt : β → β → Bool} (f : α → β) {l : List α} {x : α} (h : bestOf (fun a b => lt (f a) (f b)) l = some x) : bestOf lt (l.map f) = some (f x) := by
 cases l with
 | nil => simp [bestOf] at h
 | cons a l =>
  unfold bestOf at h ⊢
  simp only [List.map_cons, Option.some.injEq] at h ⊢
  rw [← h]
  clear h
  induction l generalizing a with
  | nil => rfl
  | cons c l ih =>
   simp only [List.map_cons, List.foldl_cons]
   rw [← ih]
   congr 1
   split <;> rfl
set_option maxRecDepth 100000 in
set_option maxHeartbeats 4000000 in
theorem pk_none {ks : List (Int × Int)} {ka : Option Addr} {kc mb : Nat} (hl : ks.length ≤ 4) (_hc : ks.length ≤ kc) (p : Int) (w : World) (hp : p ≤ 0) (hm : MemoAt w mb ks) :
 Calls Tryz.prog 64 #[.agg #[.slice ka ks.length kc, .map (some mb)], .int .i64 p] w fun e w' => ∃ a n c, e = .returned (.agg #[.slice a n c, .int .i64 (pkP ks p).2]) ∧ Touch (· = mb) w w' ∧ MemoAt w' mb ks ∧ OwnI w' (.slice a n c) (pkP ks p).1 := by
 have hz : pkP ks p = zeroPk ks := by unfold pkP; rw [show p.toNat = 0 by omega]; rfl
 have HZ := Lib.hid hz
 have t0 : decide (p ≤ 0) = true := by simpa using hp
 obtain ⟨W, hW⟩ : ∃ W, W = (w.alloc (.cells #[.slice ka ks.length kc, .map (some mb)] 124)).alloc (.cells #[.slice none 0 0, .int .i64 0] 121) := ⟨_, rfl⟩
 have hx0 : Ext w W := by rw [hW]; exact ((Ext.refl w).alloc _).alloc _
 have c0 : W.cell? ⟨w.heap.size, 0, none⟩ = some (.slice ka ks.length kc) := by rw [hW]; go_simp
 have hb1 : W.heap[w.heap.size + 1]? = some (.cells #[.slice none 0 0, .int .i64 0] 121) := by
  rw [hW]; have := World.alloc_heap_new (w.alloc (.cells #[.slice ka ks.length kc, .map (some mb)] 124)) (.cells #[.slice none 0 0, .int .i64 0] 121); rwa [World.size_alloc] at this
 obtain ⟨jj, hj1, hj2, hj3, hj4⟩ := E_ints.info
 obtain ⟨w7, hrun7, hown7, hgr7⟩ := run_makeSlice_full (P := Tryz.prog) (w := W) W.heap.size 42 3 jj (.int .i64 0) 1 Tryz.underlying42 hj1 hj2 hj3 .i64 .i64 ks.length (by omega) (by rw [hj4]; omega) (by unfold maxLen; omega) (Nat.le_refl _)
 rw [madeCells_int, List.toList_toArray] at hown7
 have hx7 : Ext W w7 := Ext.grown (Ext.refl W) hgr7 (fun k h => by cases h)
 have hb7 := (hx7.block (Array.getElem?_eq_some_iff.1 hb1).1).trans hb1
 obtain ⟨⟨y0, y1⟩, x0, x1⟩ := cells2 hb7
 have hlt1 := (Array.getElem?_eq_some_iff.1 hb1).1
 have HFIN := Lib.hid (fun (v0 v1 : Value) => (⟨store2 hb7 v0 v1, touch2 w7 (w.heap.size + 1) v0 v1⟩ : _ ∧ _))
 have HOWN := Lib.hid hown7
 have HW7 := Lib.hid hb7
 have HX := Lib.hid (hx0.trans hx7)
 have HX7 := Lib.hid hx7
 have HM := Lib.hid hm
 have hm8 := HM.out.lt
 clear hown7 hgr7 hj1 hj2 hj3 hj4 hb7 hb1 hx7 hm hz
 generalize hmm : W.heap.size = m at hrun7 HOWN
 have HMM := Lib.hid hmm
 clear hmm
 go_enter Tryz.func64, Tryz.ntmps64
 go_upto_region 1 with fail
 rw [← hW]
 clear hW
 go_wp2
 obtain ⟨hh, hT⟩ := HFIN.out (.slice (some ⟨m, 0, none⟩) ks.length ks.length) (.int .i64 0)
 obtain ⟨⟨g0, g1⟩, _⟩ := cells2 hh
 have HT := Lib.hid hT
 clear hT hh HFIN
 generalize hW6 : (World.setCell _ _ _) = W6 at *
 have hNI : NotInts w7 (fun i => i = w.heap.size + 1) := by
  rintro j rfl cur fr he
  have hq := HT.out
  have := HW7.out
  rw [this] at he
  cases he
 refine bodyPost_ret (v := .agg #[.slice (some ⟨m, 0, none⟩) ks.length ks.length, .int .i64 0]) (by simp [results, Tryz.results64, go_sem, g0, g1]) rfl ⟨_, _, _, by rw [HZ.out]; rfl, ?_, ?_, ?_⟩
 ·exact Touch.of_new ((Touch.of_ext (M := fun i => i = w.heap.size + 1) HX.out).trans HT.out) (fun j hj hl => by omega)
 ·exact (HM.out.ext HX.out).touch HT.out (by omega) hNI
 ·rw [HZ.out]
  have h1 : OwnI w7 (.slice (some ⟨m, 0, none⟩) ks.length ks.length) (zeroPk ks).1 := OwnI.of (b := m) (by simpa [zeroPk] using HOWN.out)
  exact h1.touch HT.out hNI
end Go.Proofs.YtokananogogjaaaGreatDoor

/- The best packs: one piece more. -/
namespace Go.Proofs.YtokananogogjaaaGreatDoor
open Go.RowKit
theorem getD_bd {l : List Int} {B : Int} (h : ∀ x, x ∈ l → 0 ≤ x ∧ x ≤ B) (j : Nat) : 0 ≤ l.getD j 0 ∧ (l.getD j 0 = 0 ∨ l.getD j 0 ≤ B) := by
 rw [List.getD_eq_getElem?_getD]
 cases hx : l[j]? with
 | none => simp
 | some y => have := h y (List.mem_of_getElem? hx); simp; omega
theorem owns_lower {W : World} {b b' : Nat} {e : TypeId} {size : Nat} {v : Value} {n : Nat} {xs : List Value} (h : W.ownsRow b e size v n xs) (hb : b' ≤ b) : W.ownsRow b' e size v n xs :=
 ⟨h.1, h.2.elim .inl (fun ⟨g, cap, cur, a, c, d⟩ => .inr ⟨g, cap, cur, a, Nat.le_trans hb c, d⟩)⟩
/-- A clone in a box, somewhere above. -/
def CloneIn (W3 : World) (L : List Int) (q : Int) (B g cap : Nat) (W' : World) : Prop :=
 Ext W3 W' ∧ W3.heap.size ≤ B ∧ W'.heap[B]? = some (.cells #[.slice (some ⟨g, 0, none⟩) L.length cap, .int .i64 q] 121) ∧ W'.ownsRow W3.heap.size 3 1 (.slice (some ⟨g, 0, none⟩) L.length cap) L.length (L.map (.int .i64))
theorem clone_before {W3 w4 : World} {L : List Int} {q : Int} {B g cap : Nat} {z0 z1 : Value} (h : Ext W3 w4) (hB : W3.heap.size ≤ B) (hb : w4.heap[B]? = some (.cells #[z0, z1] 121)) (ho : w4.ownsRow W3.heap.size 3 1 (.slice (some ⟨g, 0, none⟩) L.length cap) L.length (L.map (.int .i64))) :
 CloneIn W3 L q B g cap ((w4.setCell ⟨B, 0, none⟩ (.slice (some ⟨g, 0, none⟩) L.length cap)).setCell ⟨B, 1, none⟩ (.int .i64 q)) := by
 have hT := touch2 w4 B (.slice (some ⟨g, 0, none⟩) L.length cap) (.int .i64 q)
 refine ⟨Touch.ext h hT (fun i hi => by omega), hB, store2 hb _ _, owns_touch ho hT (fun k hk hk2 => ?_)⟩
 cases hk
 obtain ⟨_, ⟨h1, _⟩ | ⟨g', cap', cur, h1, _, hh, _⟩⟩ := ho
 ·cases h1
 ·cases h1
  rw [show g = B from hk2, hb] at hh
  cases hh
theorem clone_after {W3 w4 : World} {L : List Int} {q : Int} {g cap : Nat} (h : Ext W3 w4) (ho : w4.ownsRow W3.heap.size 3 1 (.slice (some ⟨g, 0, none⟩) L.length cap) L.length (L.map (.int .i64))) :
 CloneIn W3 L q w4.heap.size g cap (w4.alloc (.cells #[.slice (some ⟨g, 0, none⟩) L.length cap, .int .i64 q] 121)) :=
 ⟨h.alloc _, h.size, World.alloc_heap_new _ _, ho.alloc _⟩
theorem CloneIn.apart {W3 W' : World} {L : List Int} {q : Int} {B g cap : Nat} (h : CloneIn W3 L q B g cap W') : B ≠ g ∧ W3.heap.size ≤ g := by
 obtain ⟨_, _, hb, ho⟩ := h
 refine ⟨fun e => ?_, owns_block ho g rfl⟩
 obtain ⟨_, ⟨h1, _⟩ | ⟨g', cap', cur, h1, _, hh, _⟩⟩ := ho
 ·cases h1
 ·cases h1
  rw [← e, hb] at hh
  cases hh
set_option maxRecDepth 100000 in
set_option maxHeartbeats 16000000 in
theorem pk_step {ks : List (Int × Int)} {ka : Option Addr} {kc mb n : Nat} (hK : PacksB ks) (hn : n + 1 ≤ 600) (hBest : PkCall ks ka kc mb n) (w : World) (hv : RowOf packC w (.slice ka ks.length kc) ks) (hm : MemoAt w mb ks) :
 Calls Tryz.prog 64 #[.agg #[.slice ka ks.length kc, .map (some mb)], .int .i64 ((n + 1 : Nat) : Int)] w fun e w' => ∃ a m c, e = .returned (.agg #[.slice a m c, .int .i64 (pkAt ks (n + 1)).2]) ∧ Touch (· = mb) w w' ∧ MemoAt w' mb ks ∧ OwnI w' (.slice a m c) (pkAt ks (n + 1)).1 := by
 have hmb := hm.lt
 have hmix : Tryz.prog.follows .mixedOrders = true := by kernel_rfl
 have eab := enters_better
 obtain ⟨_, _, hve, kl, kc2, _⟩ := RowOf.open2 (f := packC) (fun _ => rfl) hv
 cases hve
 have HKR := Lib.hid (fun (W1 : World) (h : Touch (· = mb) w W1) => (row_memo hv hm h : RowOf packC W1 (.slice ka ks.length kc) ks))
 have HBE := Lib.hid hBest
 have HK := Lib.hid hK
 have HM := Lib.hid hm
 have hk1 := hK.n1
 have hk4 := hK.n4
 obtain ⟨f, hf⟩ : ∃ f : Int → Pk, f = fun h => pkAt ks (n + 1 - h.toNat) := ⟨_, rfl⟩
 have HSU : Hid (bestOf ltPk (candFrom f 0 ks) = some (pkAt ks (n + 1))) := by unfold Hid; rw [hf]; exact pkAt_succ hK n
 have HCG : Hid (∀ (k : Nat) (x : Int × Int), ks[k]? = some x → (candFrom f 0 ks)[k]? = some (addPk k x.2 (pkP ks ((n + 1 : Nat) - x.1))) ∧ -200 ≤ ((n + 1 : Nat) : Int) - x.1 ∧ ((n + 1 : Nat) : Int) - x.1 ≤ n ∧ 0 ≤ x.2 ∧ x.2 ≤ 1000) := by
  intro k x hx
  have hb := hK.all x (List.mem_of_getElem? hx)
  refine ⟨?_, by omega, by omega, by omega, by omega⟩
  rw [cand_get f ks 0 k x hx, hf, Nat.zero_add]
  unfold pkP
  rw [show (((n + 1 : Nat) : Int) - x.1).toNat = n + 1 - x.1.toNat by omega]
 have HPS : Hid (∀ p : Int, p ≤ n → SmallK (pkP ks p).1 ∧ 0 ≤ (pkP ks p).2 ∧ (pkP ks p).2 ≤ 600000 ∧ (pkP ks p).1.length = ks.length ∧ ∀ x, x ∈ (pkP ks p).1 → 0 ≤ x ∧ x ≤ 600) := fun p hp => pk_small hK (by omega)
 have HFF : Hid (∀ x : Int × Int, x ∈ ks → f x.1 = pkP ks ((n + 1 : Nat) - x.1)) := by
  intro x hx
  have hb := hK.all x hx
  rw [hf]
  unfold pkP
  rw [show (((n + 1 : Nat) : Int) - x.1).toNat = n + 1 - x.1.toNat by omega]
 clear hBest hK hv hf
 obtain ⟨P, hP⟩ : ∃ P : Int, P = ((n + 1 : Nat) : Int) := ⟨_, rfl⟩
 have hP1 : 0 < P := by omega
 have hP6 : P ≤ 600 := by omega
 rw [← hP]
 rw [← hP] at HCG HFF
 have HP := Lib.hid hP
 obtain ⟨R, hR⟩ : ∃ R, pkAt ks (n + 1) = R := ⟨_, rfl⟩
 rw [hR] at HSU ⊢
 have HR := Lib.hid hR
 clear hR hP
 have t0 : decide (P ≤ 0) = false := by simp; omega
 obtain ⟨W, hW⟩ : ∃ W, W = (w.alloc (.cells #[.slice ka ks.length kc, .map (some mb)] 124)).alloc (.cells #[.slice none 0 0, .int .i64 0] 121) := ⟨_, rfl⟩
 have hx0 : Ext w W := by rw [hW]; exact ((Ext.refl w).alloc _).alloc _
 have hz0 : W.heap.size = w.heap.size + 2 := by rw [hW]; simp
 have hb0 : W.heap[w.heap.size]? = some (.cells #[.slice ka ks.length kc, .map (some mb)] 124) := by rw [hW]; exact (((Ext.refl (w.alloc (.cells #[.slice ka ks.length kc, .map (some mb)] 124))).alloc _).block (by simp)).trans (World.alloc_heap_new _ _)
 have hb1 : W.heap[w.heap.size + 1]? = some (.cells #[.slice none 0 0, .int .i64 0] 121) := by
  rw [hW]; have := World.alloc_heap_new (w.alloc (.cells #[.slice ka ks.length kc, .map (some mb)] 124)) (.cells #[.slice none 0 0, .int .i64 0] 121); rwa [World.size_alloc] at this
 obtain ⟨⟨c0, c1⟩, _⟩ := cells2 hb0
 have HX0 := Lib.hid hx0
 have HZ0 := Lib.hid hz0
 have HB0 := Lib.hid (And.intro hb0 hb1)
 clear hx0 hz0 hb0 hb1
 go_enter Tryz.func64, Tryz.ntmps64
 go_upto_region 1 with fail
 rw [← hW]
 clear hW
 go_upto_region 4 with (at_lookup; refine wpList_memo_lookup rfl _ _ rfl rfl (HM.out.ext HX0.out) hn HP.out rfl ?_; intro cB aa an ac aq hcB; have HCB := Lib.hid hcB; clear hcB)
 have hxA : Ext W (W.alloc (.cells #[.slice aa an ac, .int .i64 aq] 121)) := (Ext.refl W).alloc _
 have hzA : (W.alloc (.cells #[.slice aa an ac, .int .i64 aq] 121)).heap.size = w.heap.size + 3 := by have := HZ0.out; simp; omega
 have hbA0 := (hxA.block (by have := HZ0.out; omega)).trans HB0.out.1
 have hbA1 := (hxA.block (by have := HZ0.out; omega)).trans HB0.out.2
 cases cB with
 | true =>
  obtain ⟨hq, ho⟩ := HCB.out rfl
  obtain ⟨⟨y0, y1⟩, x0, x1⟩ := cells2 hbA1
  have HFIN := Lib.hid (⟨store2 hbA1 (.slice aa an ac) (.int .i64 aq), touch2 (W.alloc (.cells #[.slice aa an ac, .int .i64 aq] 121)) (w.heap.size + 1) (.slice aa an ac) (.int .i64 aq)⟩ : _ ∧ _)
  have HOA := Lib.hid (ho.ext hxA)
  have HXA := Lib.hid (HX0.out.trans hxA)
  have HQ := Lib.hid hq
  have HBA := Lib.hid hbA1
  clear hq ho hxA hbA0 hbA1 hzA HCB
  go_wp2
  obtain ⟨hh, hT⟩ := HFIN.out
  obtain ⟨⟨g0, g1⟩, _⟩ := cells2 hh
  have HT := Lib.hid hT
  clear hT hh HFIN
  have hNI : NotInts (W.alloc (.cells #[.slice aa an ac, .int .i64 aq] 121)) (fun i => i = w.heap.size + 1) := by
   rintro j rfl cur fr he
   rw [HBA.out] at he
   cases he
  generalize hW6 : (World.setCell _ _ _) = W6 at *
  refine bodyPost_ret (v := .agg #[.slice aa an ac, .int .i64 aq]) (by simp [results, Tryz.results64, go_sem, g0, g1]) rfl ⟨_, _, _, by rw [HQ.out, HR.out], ?_, ?_, ?_⟩
  ·exact Touch.of_new ((Touch.of_ext (M := fun i => i = w.heap.size + 1) HXA.out).trans HT.out) (fun j hj hl => by omega)
  ·exact (HM.out.ext HXA.out).touch HT.out (by omega) hNI
  ·rw [← HR.out]; exact HOA.out.touch HT.out hNI
 | false =>
  obtain ⟨WA, hWA⟩ : ∃ WA, WA = W.alloc (.cells #[.slice aa an ac, .int .i64 aq] 121) := ⟨_, rfl⟩
  rw [← hWA] at hxA hzA hbA0 hbA1 ⊢
  have hI0 : PbI ks ka kc mb w f 0 (.slice none 0 0) WA [] := ⟨Touch.of_ext (HX0.out.trans hxA), HM.out.ext (HX0.out.trans hxA), hbA0, hbA1, World.ownsRow_nil _ _ _ _, rfl, by simp, fun q hq => by simp at hq⟩
  obtain ⟨⟨c0, c1⟩, _⟩ := cells2 hbA0
  have HI0 := Lib.hid hI0
  have HZA := Lib.hid hzA
  clear hWA hxA hzA hbA0 hbA1 hI0 HCB HB0
  go_wp2
  clear c0 c1
  go_loopw [7, 33] (fun o j wr => ∃ (k : Nat) (qs : List PkR), k ≤ ks.length ∧ j = .int .i64 (k : Int) ∧ w.heap.size + 3 ≤ wr.heap.size ∧ PbI ks ka kc mb w f k o wr qs) (fun _ j _ => ks.length - (intOf j).toNat)
  case atStart => exact ⟨0, [], Nat.zero_le _, rfl, by have := HZA.out; omega, HI0.out⟩
  case round =>
   obtain ⟨k, qs, hk, rfl, hzr, hbi⟩ := hrel
   by_cases hlt : k < ks.length
   ·obtain ⟨_, _, hve, _, _, l3⟩ := RowOf.open2 (f := packC) (fun _ => rfl) (HKR.out wr hbi.t)
    cases hve
    obtain ⟨bb, bo, x, rfl, hpk, d0, d1⟩ := l3 k hlt
    obtain ⟨hcand, hq1, hq2, hp1, hp2⟩ := HCG.out k x hpk.out
    obtain ⟨p', hp'⟩ : ∃ p', P - x.1 = p' := ⟨_, rfl⟩
    rw [hp'] at hcand hq1 hq2
    have hwq : IntKind.i64.wrap (P - x.1) = p' := by rw [IntWalk.i64_in _ (by omega)]; exact hp'
    obtain ⟨hsk, hs0, hs6, hsl, _⟩ := HPS.out p' hq2
    obtain ⟨⟨c0, c1⟩, _⟩ := cells2 hbi.box
    have k1 : (0 : Int) ≤ (k : Int) := by omega
    have k2 : (k : Int) < (ks.length : Int) := by omega
    obtain ⟨W1, hW1⟩ : ∃ W1, W1 = wr.alloc (.cells #[.int .i64 x.1, .int .i64 x.2] 118) := ⟨_, rfl⟩
    have hx1 : Ext wr W1 := by rw [hW1]; exact (Ext.refl wr).alloc _
    have hz1 : W1.heap.size = wr.heap.size + 1 := by rw [hW1]; simp
    have e0 : W1.cell? ⟨wr.heap.size, 0, none⟩ = some (.int .i64 x.1) := by rw [hW1]; go_simp
    have e1 : W1.cell? ⟨wr.heap.size, 1, none⟩ = some (.int .i64 x.2) := by rw [hW1]; go_simp
    have hbi1 := hbi.ext hx1
    obtain ⟨⟨c0', c1'⟩, _⟩ := cells2 hbi1.box
    have HRC := Lib.hid (HBE.out p' W1 hq1 hq2 (HKR.out W1 hbi1.t) hbi1.memo)
    have HBI := Lib.hid hbi1
    have HE1 := Lib.hid e1
    obtain ⟨oa, oc, rfl, _⟩ := RowAt.open (RowAt.of_owns hbi.own)
    obtain ⟨L, hL⟩ : ∃ L, (pkP ks p').1 = L := ⟨_, rfl⟩
    obtain ⟨pr, hpr⟩ : ∃ pr, (pkP ks p').2 = pr := ⟨_, rfl⟩
    rw [hL] at hsl HRC
    rw [hpr] at hs0 hs6 HRC
    have HCA := Lib.hid (show (candFrom f 0 ks)[k]? = some (L.set k (L.getD k 0 + 1), pr + x.2) by rw [hcand]; unfold addPk; rw [hL, hpr])
    have hLk : L[k]? = some (L.getD k 0) := by rw [List.getD_eq_getElem?_getD, List.getElem?_eq_getElem (by omega)]; rfl
    have hold : 0 ≤ L.getD k 0 ∧ L.getD k 0 ≤ 1000000 := hsk.2 _ (by rw [hL]; exact List.mem_of_getElem? hLk)
    obtain ⟨old, hol⟩ : ∃ old, L.getD k 0 = old := ⟨_, rfl⟩
    rw [hol] at HCA hLk hold
    have hwo : IntKind.i64.wrap (old + 1) = old + 1 := IntWalk.i64_in _ (by omega)
    have hws : IntKind.i64.wrap (pr + x.2) = pr + x.2 := IntWalk.i64_in _ (by omega)
    have HLK := Lib.hid hLk
    have HSL := Lib.hid hsl
    clear hbi hbi1 hpk hcand l3 hL hpr hol hLk hsl hsk hp'
    go_upto_region 10 with fail
    rw [← hW1]
    clear hW1 d0 d1 c0 c1
    go_upto_region 11 with (go_at_call 64; refine HRC.out.mono ?_; rintro e w2 ⟨la, ln, lc, rfl, hT2, hm2, ho2⟩)
    have hbi2 := HBI.out.call hmb hT2 hm2
    have e1' := hT2.cell HE1.out (fun h => by simp only at h; omega)
    obtain ⟨W3, hW3⟩ : ∃ W3, W3 = w2.alloc (.cells #[.slice la ln lc, .int .i64 pr] 121) := ⟨_, rfl⟩
    have hx3 : Ext w2 W3 := by rw [hW3]; exact (Ext.refl w2).alloc _
    have r0 : W3.cell? ⟨w2.heap.size, 0, none⟩ = some (.slice la ln lc) := by rw [hW3]; go_simp
    have r1 : W3.cell? ⟨w2.heap.size, 1, none⟩ = some (.int .i64 pr) := by rw [hW3]; go_simp
    have r2 := hx3.cell e1'
    have hlo : ln = L.length := by
     obtain ⟨_, _, hve, _⟩ := ho2.ints.open
     cases hve; rfl
    subst hlo
    have HCL := Lib.hid (fun (W4 : World) (h : Ext W3 W4) => clone_any (.slice la L.length lc) L W4 ((ho2.ints.ext hx3).ext h) (by have := HSL.out; omega))
    have hbi3 := hbi2.ext hx3
    have HBI3 := Lib.hid hbi3
    have HF := Lib.hid (fun (W4 : World) (h : Ext W3 W4) => (⟨h.cell r0, h.cell r1, h.cell r2⟩ : _ ∧ _ ∧ _))
    have hLp : 0 < L.length := by have := HSL.out; omega
    rw [← hW3]
    have hz3 : w.heap.size + 3 ≤ W3.heap.size := by have := HBI.out.t.size; have := hT2.size; have := hx3.size; omega
    clear hW3 hbi2 hbi3 hT2 hm2 ho2 e0 e1 e1' c0' c1' hx3 HBI r0 r1 r2
    refine Code.wp_mono (Q := fun ex a' w' => match ex with | .normal => ∃ (B g cap : Nat) (u34 u35 u36 u37 u38 u39 u40 u41 u42 u43 u44 u45 u46 u47 u48 u49 u50 u51 u52 u53 u54 u55 u56 u57 u58 u59 u60 u61 u62 u63 u64 : Value), a' = { tmps := #[.agg #[.slice (some ⟨bb, bo, none⟩) ks.length kc, .map (some mb)], .int .i64 P, .pointer (some ⟨w.heap.size, 0, none⟩), undef, .pointer (some ⟨w.heap.size + 1, 0, none⟩), .pointer (some ⟨W.heap.size, 0, none⟩), .bool false, .slice oa k oc, .int .i64 (k : Int), .pointer (some ⟨wr.heap.size, 0, none⟩), .pointer (some ⟨w2.heap.size, 0, none⟩), .pointer (some ⟨B, 0, none⟩), undef, undef, .int .i64 P, .bool false, undef, undef, undef, undef, undef, .tuple #[.agg #[.slice aa an ac, .int .i64 aq], .bool false], .pointer (some ⟨w.heap.size, 1, none⟩), .map (some mb), .int .i64 P, .tuple #[.agg #[.slice aa an ac, .int .i64 aq], .bool false], .agg #[.slice aa an ac, .int .i64 aq], .bool false, .bool false, undef, .pointer (some ⟨w.heap.size, 0, none⟩), .slice (some ⟨bb, bo, none⟩) ks.length kc, .int .i64 (ks.length : Int), .int .i64 (k : Int), u34, u35, u36, u37, u38, u39, u40, u41, u42, u43, u44, u45, u46, u47, u48, u49, u50, u51, u52, u53, u54, u55, u56, u57, u58, u59, u60, u61, u62, u63, u64, undef, undef, undef, undef, undef, undef, undef, undef, undef, undef], defers := [] } ∧ CloneIn W3 L (pr + x.2) B g cap w' | _ => False) (fun ex a' w' h => ?_) ?_
    rotate_left
    ·skip
     refine wp_region_held_drew (S := (fun W' => W'.cell? ⟨w2.heap.size, 0, none⟩ = some (.slice la L.length lc) ∧ W'.cell? ⟨w2.heap.size, 1, none⟩ = some (.int .i64 pr) ∧ W'.cell? ⟨wr.heap.size, 1, none⟩ = some (.int .i64 x.2))) (by kernel_rfl) ?_ (fun hHeld => ?_)
     ·exact HF.out _ (Ext.refl W3).drew
     refine hTk (i := 0) (d := some 44) (v := ?_) (fun o ho => ?_) hHeld ?_
     rotate_left
     ·simp only [zA, zB, zD] at ho
      subst ho
      refine ⟨by rfl, fun w hSw => ?_⟩
      (try dsimp only at hSw)
      go_simp
      try with_reducible rfl
     try simp only [Act.put, yA, yB, yC]
     refine hTk (i := 1) (d := some 45) (v := ?_) (fun o ho => ?_) hHeld ?_
     rotate_left
     ·simp only [zA, zB, zC, zD] at ho
      subst ho
      refine ⟨by rfl, fun w hSw => ?_⟩
      (try dsimp only at hSw)
      go_simp
      try with_reducible rfl
     try simp only [Act.put, yA, yB, yC]
     refine hTk (i := 3) (d := some 47) (v := ?_) (fun o ho => ?_) hHeld ?_
     rotate_left
     ·simp only [zA, zB, zC, zD] at ho
      subst ho
      refine ⟨by rfl, fun w hSw => ?_⟩
      (try dsimp only at hSw)
      go_simp
      try with_reducible rfl
     try simp only [Act.put, yA, yB, yC]
     refine hTk (i := 4) (d := some 48) (v := ?_) (fun o ho => ?_) hHeld ?_
     rotate_left
     ·simp only [zA, zB, zC, zD] at ho
      subst ho
      refine ⟨by rfl, fun w hSw => ?_⟩
      (try dsimp only at hSw)
      go_simp
      try with_reducible rfl
     try simp only [Act.put, yA, yB, yC]
     refine hTk (i := 5) (d := some 49) (v := ?_) (fun o ho => ?_) hHeld ?_
     rotate_left
     ·simp only [zA, zB, zC, zD] at ho
      subst ho
      refine ⟨by rfl, fun w hSw => ?_⟩
      (try dsimp only at hSw)
      go_simp
      try with_reducible rfl
     try simp only [Act.put, yA, yB, yC]
     refine hTk (i := 6) (d := some 50) (v := ?_) (fun o ho => ?_) hHeld ?_
     rotate_left
     ·simp only [zA, zB, zC, zD] at ho
      subst ho
      refine ⟨by rfl, fun w hSw => ?_⟩
      (try dsimp only at hSw)
      go_simp
      try with_reducible rfl
     try simp only [Act.put, yA, yB, yC]
     refine hTk (i := 7) (d := some 51) (v := ?_) (fun o ho => ?_) hHeld ?_
     rotate_left
     ·simp only [zA, zB, zC, zD] at ho
      subst ho
      refine ⟨by rfl, fun w hSw => ?_⟩
      (try dsimp only at hSw)
      go_simp
      try with_reducible rfl
     try simp only [Act.put, yA, yB, yC]
     refine wpAnyH_ready (rs := [2, 9]) (by kernel_rfl) (by simp) ?_
     refine held_step (i := 2) (by kernel_rfl) (fun o ho K' hK => ?_) ?_
     ·simp only [zA, zB, zC, zD] at ho
      subst ho
      go_simp
      go_at_call 65
      refine (HCL.out _ eC).mono ?_
      rintro r w4 ⟨cv, rfl, hown4, hz⟩
      obtain ⟨g, cap, rfl, hg1, hg2⟩ := owns_some hown4 hLp
      have hyw4 : Ext W3 w4 := Ext.trans eC hz
      have hsw4 := hyw4.size
      clear hz
      try go_simp
      refine hK.out _ _ ?_ (fun hHeld => ?_)
      ·exact HF.out _ eS
      clear hK K'
      try simp only [yA, yB, yC]
      refine hTk (i := 8) (d := some 52) (v := ?_) (fun o ho => ?_) hHeld ?_
      rotate_left
      ·simp only [zA, zB, zC, zD] at ho
       subst ho
       refine ⟨by rfl, fun w hSw => ?_⟩
       (try dsimp only at hSw)
       go_simp
       try with_reducible rfl
      try simp only [Act.put, yA, yB, yC]
      refine wpAnyH_ready (rs := [9]) (by kernel_rfl) (by simp) ?_
      refine held_step (i := 9) (by kernel_rfl) (fun o ho K' hK => ?_) ?_
      ·simp only [zA, zB, zC, zD] at ho
       subst ho
       go_simp
       refine hK.out _ _ ?_ (fun hHeld => ?_)
       ·exact HF.out _ eS
       clear hK K'
       try simp only [yA, yB, yC]
       refine wpAnyH_ready (rs := [10]) (by kernel_rfl) (by simp) ?_
       refine held_step (i := 10) (by kernel_rfl) (fun o ho K' hK => ?_) ?_
       ·simp only [zA, zB, zC, zD] at ho
        subst ho
        go_simp
        refine hK.out _ _ ?_ (fun hHeld => ?_)
        ·exact HF.out _ eS
        clear hK K'
        try simp only [yA, yB, yC]
        refine wpAnyH_done (by kernel_rfl) ?_ _
        clear hHeld
        refine ⟨_, g, cap, _, _, _, _, _, _, _, _, _, _, _, _, _, _, _, _, _, _, _, _, _, _, _, _, _, _, _, _, _, _, _, rfl, ?_⟩
        exact clone_after hyw4 (owns_lower hown4 (by first | exact Nat.le_refl _ | (simp; done) | (simp only [World.size_alloc, World.heap_drew]; omega) | (simp; omega)))
       exact AllReadyH.nil
      exact AllReadyH.nil
     refine held_step (i := 9) (by kernel_rfl) (fun o ho K' hK => ?_) ?_
     ·simp only [zA, zB, zC, zD] at ho
      subst ho
      go_simp
      refine hK.out _ _ ?_ (fun hHeld => ?_)
      ·exact HF.out _ eS
      clear hK K'
      try simp only [yA, yB, yC]
      refine wpAnyH_ready (rs := [2]) (by kernel_rfl) (by simp) ?_
      refine held_step (i := 2) (by kernel_rfl) (fun o ho K' hK => ?_) ?_
      ·simp only [zA, zB, zC, zD] at ho
       subst ho
       go_simp
       go_at_call 65
       refine (HCL.out _ eC).mono ?_
       rintro r w4 ⟨cv, rfl, hown4, hz⟩
       obtain ⟨g, cap, rfl, hg1, hg2⟩ := owns_some hown4 hLp
       have hyw4 : Ext W3 w4 := Ext.trans eC hz
       have hsw4 := hyw4.size
       have hzb : w4.heap[W3.heap.size]? = some (.cells #[.slice none 0 0, .int .i64 0] 121) := (by first | exact ext_new hz | exact ext_newd hz)
       obtain ⟨⟨y0, y1⟩, x0, x1⟩ := cells2 hzb
       clear hz
       try go_simp
       refine hK.out _ _ ?_ (fun hHeld => ?_)
       ·exact HF.out _ eS
       clear hK K'
       try simp only [yA, yB, yC]
       refine hTk (i := 8) (d := some 52) (v := ?_) (fun o ho => ?_) hHeld ?_
       rotate_left
       ·simp only [zA, zB, zC, zD] at ho
        subst ho
        refine ⟨by rfl, fun w hSw => ?_⟩
        (try dsimp only at hSw)
        go_simp
        try with_reducible rfl
       try simp only [Act.put, yA, yB, yC]
       refine wpAnyH_ready (rs := [10]) (by kernel_rfl) (by simp) ?_
       refine held_step (i := 10) (by kernel_rfl) (fun o ho K' hK => ?_) ?_
       ·simp only [zA, zB, zC, zD] at ho
        subst ho
        go_simp
        refine hK.out _ _ ?_ (fun hHeld => ?_)
        ·exact HF.out _ eS
        clear hK K'
        try simp only [yA, yB, yC]
        refine wpAnyH_done (by kernel_rfl) ?_ _
        clear hHeld
        refine ⟨_, g, cap, _, _, _, _, _, _, _, _, _, _, _, _, _, _, _, _, _, _, _, _, _, _, _, _, _, _, _, _, _, _, _, rfl, ?_⟩
        exact clone_before hyw4 (Nat.le_refl _) hzb (owns_lower hown4 (by first | exact Nat.le_refl _ | (simp; done) | (simp only [World.size_alloc, World.heap_drew]; omega) | (simp; omega)))
       exact AllReadyH.nil
      exact AllReadyH.nil
     exact AllReadyH.nil
    cases ex with
    | normal =>
     obtain ⟨B, g, cap, u34, u35, u36, u37, u38, u39, u40, u41, u42, u43, u44, u45, u46, u47, u48, u49, u50, u51, u52, u53, u54, u55, u56, u57, u58, u59, u60, u61, u62, u63, u64, rfl, hci⟩ := h
     have hap := hci.apart
     obtain ⟨hx34, hB3, hb4, ho4⟩ := hci
     obtain ⟨⟨z0, z1⟩, _⟩ := cells2 hb4
     have l0 := ho4.cellAt k (by have := HSL.out; omega)
     rw [List.getElem?_map, HLK.out] at l0
     replace l0 : w'.cell? ⟨g, k, none⟩ = some (.int .i64 old) := l0
     have lf := ho4.frozenAt k
     have hcl := owns_slice ho4
     obtain ⟨_, _, hve, hc1, hc2⟩ := hcl
     cases hve
     have s2 : (k : Int) < (L.length : Int) := by have := HSL.out; omega
     have ho5 := (ho4.stored k (.int .i64 (old + 1))).1
     have hx35 : Ext W3 (w'.setCell ⟨g, k, none⟩ (.int .i64 (old + 1))) := hx34.setCell (by simp only []; exact hap.2) _
     have hT45 : Touch (fun i => i = g) w' (w'.setCell ⟨g, k, none⟩ (.int .i64 (old + 1))) := Touch.setCell _ rfl
     have hb5 := hT45.keep _ _ hb4 (fun h => hap.1 h)
     obtain ⟨W5, hW5⟩ : ∃ W5, W5 = w'.setCell ⟨g, k, none⟩ (.int .i64 (old + 1)) := ⟨_, rfl⟩
     rw [← hW5] at ho5 hx35 hb5
     have HBI5 := Lib.hid (HBI3.out.ext hx35)
     have HB5 := Lib.hid hb5
     have hO5 : OwnI W5 (.slice (some ⟨g, 0, none⟩) L.length cap) (L.set k (old + 1)) := OwnI.of (b := W3.heap.size) (by rw [List.length_set, List.map_set]; exact ho5)
     have HO5 := Lib.hid hO5
     have HX35 := Lib.hid hx35
     clear hx34 hb4 ho4 ho5 hx35 hT45 hb5 hO5 hap
     go_upto_region 13 with fail
     rw [← hW5]
     clear hW5 z0 z1 l0 lf
     obtain ⟨⟨z0, z1⟩, _⟩ := cells2 HB5.out
     have HSZ := Lib.hid (show k + 1 ≤ maxLen ∧ (k + 1) * 32 ≤ 140737488355328 by unfold maxLen; omega)
     have hbz : w.heap.size + 3 ≤ W5.heap.size := Nat.le_trans hz3 HX35.out.size
     go_wp2_with (at_builtin; refine wpList_push_at E_packed rfl _ _ rfl (w.heap.size + 3) rfl HBI5.out.own rfl (by simp) rfl (by simp [Value.oneCell']) ?_ HSZ.out.1 HSZ.out.2 hbz; intro g9 cap9 w9 hown9 hext9 hg9 hloc9)
     go_roundw
     case rel =>
      refine ⟨k + 1, _, by omega, by go_num, ?_, HBI5.out.push hmb (x := ⟨.slice (some ⟨g, 0, none⟩) L.length cap, (L.set k (old + 1), pr + x.2)⟩) HO5.out HCA.out hown9 hg9⟩
      have h1 := (Touch.grown (M := fun _ => True) hg9 (fun _ _ => trivial)).size
      have h2 : W5.heap.size ≤ (W5.alloc (.cells #[.slice (some ⟨g, 0, none⟩) L.length cap, .int .i64 (pr + x.2)] 121)).heap.size := by simp
      simp only [World.size_alloc] at h1 h2
      omega
     case measure => simp [intOf]; omega
    | _ => exact h.elim
   ·have hke : k = ks.length := by omega
    have hql := hbi.len
    have hqs := hbi.rs
    rw [List.take_of_length_le (by rw [cand_length]; omega)] at hqs
    have hrow : RowOf pkrC wr u7 qs := by
     have h := RowAt.of_owns hbi.own
     unfold RowOf
     rw [hql]; exact h
    have hsm : ∀ r, r ∈ qs → IntsAt wr r.v r.p.1 ∧ SmallK r.p.1 := fun r hr => by
     refine ⟨(hbi.ms r hr).ints, ?_⟩
     have h1 : r.p ∈ candFrom f 0 ks := by rw [← hqs]; exact List.mem_map_of_mem hr
     obtain ⟨j, x, hj, he⟩ := cand_mem h1
     have hx := HCG.out j x hj
     have h2 := HPS.out _ hx.2.2.1
     have h3 := List.mem_of_getElem? hj
     have h4 : f x.1 = pkP ks (P - x.1) := by
      exact HFF.out x h3
     rw [he, h4]
     unfold addPk
     refine ⟨by rw [List.length_set]; exact h2.1.1, fun y hy => ?_⟩
     rcases set_mem hy with rfl | hy
     ·have h7 := getD_bd h2.2.2.2.2 j; omega
     ·have h7 := h2.1.2 y hy; omega
    have hl0 : 0 < qs.length := by omega
    have HBP := Lib.hid (bestp_any u7 qs wr hrow hsm hl0)
    have HMS := Lib.hid hbi.ms
    have HQS := Lib.hid hqs
    have HBI := Lib.hid hbi
    obtain ⟨_, _, rfl, _⟩ := RowAt.open (RowAt.of_owns hbi.own)
    obtain ⟨⟨c0, c1⟩, _⟩ := cells2 hbi.box
    clear hrow hsm hbi hqs hke hql hl0
    go_upto_region 16 with (go_at_call 92; refine HBP.out.mono ?_; rintro e w2 ⟨x, hxm, hxb, rfl, hx2⟩; obtain ⟨xa, xn, xc, hxv⟩ := own_form (HMS.out x hxm); have HX := Lib.hid (And.intro hxm (And.intro hxb hxv)); rw [hxv]; clear hxm hxb hxv)
    have hxp : x.p = R := by
     have h1 := best_mapG (lt := ltPk) PkR.p (l := qs) (x := x) HX.out.2.1
     rw [HQS.out, HSU.out] at h1
     exact (Option.some.inj h1).symm
    have ho2 : OwnI w2 (.slice xa xn xc) R.1 := by
     have h1 := (HMS.out x HX.out.1).ext hx2
     rw [HX.out.2.2, hxp] at h1; exact h1
    rw [hxp]
    obtain ⟨W3, hW3⟩ : ∃ W3, W3 = w2.alloc (.cells #[.slice xa xn xc, .int .i64 R.2] 121) := ⟨_, rfl⟩
    have hx3 : Ext w2 W3 := by rw [hW3]; exact (Ext.refl w2).alloc _
    have hb3 : W3.heap[w2.heap.size]? = some (.cells #[.slice xa xn xc, .int .i64 R.2] 121) := by rw [hW3]; exact World.alloc_heap_new _ _
    have hbi3 := HBI.out.ext (hx2.trans hx3)
    have ho3 := ho2.ext hx3
    obtain ⟨⟨c0, c1⟩, _⟩ := cells2 hbi3.box
    obtain ⟨⟨r0, r1⟩, _⟩ := cells2 hb3
    have HBI3 := Lib.hid hbi3
    have HO3 := Lib.hid ho3
    have HB3 := Lib.hid hb3
    have hz2 : w.heap.size + 3 ≤ w2.heap.size := Nat.le_trans hzr hx2.size
    rw [← hW3]
    clear hW3 hbi3 ho3 ho2 hb3 hx2 hx3
    go_upto_region 17 with (at_mapUpdate; refine wpList_memo_store rfl _ _ _ rfl rfl HBI3.out.memo hn HP.out rfl rfl (by rw [HR.out]) (by rw [HR.out]; exact HO3.out) ?_; intro w4 hm4 hg4)
    have hT4 : Touch (· = mb) W3 w4 := Touch.grown hg4 (fun k hk => by cases hk; rfl)
    have hbi4 := HBI3.out.call hmb hT4 hm4
    have hb4 := hT4.keep _ _ HB3.out (by omega)
    have ho4 := HO3.out.touch hT4 HBI3.out.memo.not
    obtain ⟨⟨s0, s1⟩, _⟩ := cells2 hb4
    have hb1 := hbi4.res
    obtain ⟨⟨y0, y1⟩, x0, x1⟩ := cells2 hb1
    have HFIN := Lib.hid (⟨store2 hb1 (.slice xa xn xc) (.int .i64 R.2), touch2 w4 (w.heap.size + 1) (.slice xa xn xc) (.int .i64 R.2)⟩ : _ ∧ _)
    have hNI : NotInts w4 (fun i => i = w.heap.size + 1) := by
     rintro j rfl cur fr he
     rw [hb1] at he
     cases he
    have HNI := Lib.hid hNI
    have HM4 := Lib.hid hm4
    have HO4 := Lib.hid ho4
    have HT4 := Lib.hid hbi4.t
    clear hT4 hbi4 hb4 ho4 hb1 hNI hm4 hg4
    go_wp2
    obtain ⟨hh, hT⟩ := HFIN.out
    obtain ⟨⟨g0, g1⟩, _⟩ := cells2 hh
    have HT := Lib.hid hT
    clear hT hh HFIN
    generalize hW6 : (World.setCell _ _ _) = W6 at *
    refine bodyPost_ret (v := .agg #[.slice xa xn xc, .int .i64 R.2]) (by simp [results, Tryz.results64, go_sem, g0, g1]) rfl ⟨_, _, _, rfl, ?_, ?_, ?_⟩
    ·exact Touch.of_new (N := fun i => i = mb ∨ i = w.heap.size + 1) ((HT4.out.mono (fun i hi => .inl hi)).trans (HT.out.mono (fun i hi => .inr hi))) (fun j hj hl => hj.elim id (fun h => by omega))
    ·exact HM4.out.touch HT.out (by omega) HNI.out
    ·exact HO4.out.touch HT.out HNI.out
end Go.Proofs.YtokananogogjaaaGreatDoor

/- Packs. -/
namespace Go.Proofs.YtokananogogjaaaGreatDoor
open Go.RowKit
theorem pk_all {ks : List (Int × Int)} {ka : Option Addr} {kc mb : Nat} (hK : PacksB ks) (hc : ks.length ≤ kc) : ∀ n : Nat, n ≤ 600 → PkCall ks ka kc mb n
 | 0, _ => fun p w h1 h2 h3 h4 => by
  have := pk_none (ka := ka) hK.n4 hc p w (by omega) h4
  exact this
 | n + 1, hn => fun p w h1 h2 h3 h4 => by
  have ih := pk_all hK hc (ka := ka) (mb := mb) n (by omega)
  by_cases hp : p ≤ n
  ·exact ih p w h1 hp h3 h4
  ·have hp' : p = ((n + 1 : Nat) : Int) := by omega
   subst hp'
   have := pk_step hK hn ih w h3 h4
   unfold pkP
   rw [Int.toNat_natCast]
   exact this
def okPk (ks : List (Int × Int)) (p : Int) : Bool := isPacksB ks && inB p 0 600
def PacksRes (ks : List (Int × Int)) (p : Int) (w : World) (e : Ending) (w' : World) : Prop :=
 Ext w w' ∧ ((okPk ks p = false ∧ e = .returned (.tuple #[.slice none 0 0, .int .i64 0, .int .i64 2])) ∨ (okPk ks p = true ∧ ∃ u, e = .returned (.tuple #[u, .int .i64 (pkP ks p).2, .int .i64 0]) ∧ IntsAt w' u (pkP ks p).1))
set_option maxRecDepth 100000 in
set_option maxHeartbeats 4000000 in
theorem Packs_any (v : Value) (ks : List (Int × Int)) (p : Int) (w : World) (hv : RowOf packC w v ks) :
 Calls Tryz.prog 34 #[v, .int .i64 p] w (PacksRes ks p w) := by
 have HV := Lib.hid hv
 have HC := Lib.hid (fun (W1 : World) (h : Ext w W1) => contains_packs1 v ks W1 (RowAt.ext hv h))
 obtain ⟨a, c, rfl, hl1, hl2, _⟩ := RowOf.open2 (f := packC) (fun _ => rfl) hv
 have hNO : ∀ (w' : World), okPk ks p = false → Ext w w' → PacksRes ks p w (.returned (.tuple #[.slice none 0 0, .int .i64 0, .int .i64 2])) w' := fun w' h hx => ⟨hx, .inl ⟨h, rfl⟩⟩
 have HNO := Lib.hid hNO
 have hmm := @run_makeMap Tryz.prog
 have H1 := Lib.hid (fun W => in_any (ks.length : Int) 1 4 W)
 have H2 := Lib.hid (fun W => in_any p 0 600 W)
 clear hv hNO
 cases i1 : inB (ks.length : Int) 1 4 with
 | false =>
  have HN : Hid (okPk ks p = false) := by unfold Hid okPk isPacksB; rw [i1]; rfl
  rw [i1] at H1
  clear i1
  go_enter Tryz.func34, Tryz.ntmps34
  go_wp2_with (go_at_call 61; with_reducible refine (H1.out _).mono ?_; rintro e w' ⟨rfl, rfl⟩)
  refine bodyPost_ret (v := .tuple #[.slice none 0 0, .int .i64 0, .int .i64 2]) (by simp [results, Tryz.results34, go_sem]) rfl ?_
  exact HNO.out _ HN.out (Ext.refl _)
 | true =>
 rw [i1] at H1
 cases i2 : inB p 0 600 with
 | false =>
  have HN : Hid (okPk ks p = false) := by unfold Hid okPk; rw [i2, Bool.and_false]
  rw [i2] at H2
  clear i1 i2
  go_enter Tryz.func34, Tryz.ntmps34
  go_wp2_with (first | (go_at_call 61; with_reducible refine (H1.out _).mono ?_; rintro e w' ⟨rfl, rfl⟩) | (go_at_call 61; with_reducible refine (H2.out _).mono ?_; rintro e w' ⟨rfl, rfl⟩))
  refine bodyPost_ret (v := .tuple #[.slice none 0 0, .int .i64 0, .int .i64 2]) (by simp [results, Tryz.results34, go_sem]) rfl ?_
  exact HNO.out _ HN.out (Ext.refl _)
 | true =>
 rw [i2] at H2
 cases i3 : ks.any badPack with
 | true =>
  have HN : Hid (okPk ks p = false) := by
   unfold Hid okPk isPacksB
   rw [show (ks.any fun k => !inB k.1 1 144 || !inB k.2 0 1000) = true from i3]; simp
  rw [i3] at HC
  clear i1 i2 i3
  go_enter Tryz.func34, Tryz.ntmps34
  go_wp2_with (first | (go_at_call 61; with_reducible refine (H1.out _).mono ?_; rintro e w' ⟨rfl, rfl⟩) | (go_at_call 61; with_reducible refine (H2.out _).mono ?_; rintro e w' ⟨rfl, rfl⟩) | (go_at_call 62; refine (HC.out _ (Ext.refl _)).mono ?_; rintro e w1 ⟨rfl, hx1⟩))
  refine bodyPost_ret (v := .tuple #[.slice none 0 0, .int .i64 0, .int .i64 2]) (by simp [results, Tryz.results34, go_sem]) rfl ?_
  exact HNO.out _ HN.out hx1
 | false =>
  have hpk : isPacksB ks = true := by
   unfold isPacksB
   rw [i1, show (ks.any fun k => !inB k.1 1 144 || !inB k.2 0 1000) = false from i3]; rfl
  have hp := inB_iff.1 i2
  have hK := packsB_iff.1 hpk
  obtain ⟨R, hR⟩ : ∃ R, pkP ks p = R := ⟨_, rfl⟩
  have hYES : ∀ (w' : World) (u : Value), Ext w w' → IntsAt w' u R.1 → PacksRes ks p w (.returned (.tuple #[u, .int .i64 R.2, .int .i64 0])) w' := fun w' u hx hu => ⟨hx, .inr ⟨by unfold okPk; rw [hpk, i2]; rfl, u, by rw [hR], by rw [hR]; exact hu⟩⟩
  have HYES := Lib.hid hYES
  have hRl : R.1.length ≤ 1000000 := by
   rw [← hR]
   unfold pkP
   have := (pk_small hK (n := p.toNat) (by omega)).2.2.2.1
   have h4 := hK.n4
   omega
  have HBE := Lib.hid (fun (W1 : World) (h : Ext w W1) => pk_all (mb := W1.heap.size) hK hl1 600 (Nat.le_refl _) p (W1.alloc (.map #[] 0)) (by omega) (by omega) (RowAt.ext HV.out (h.alloc _)) (memo_made W1 ks))
  rw [hR] at HBE
  rw [i3] at HC
  clear i1 i2 i3 hpk hp hK hR HNO hYES
  go_enter Tryz.func34, Tryz.ntmps34
  go_upto_region 4 with (first | (go_at_call 61; with_reducible refine (H1.out _).mono ?_; rintro e w' ⟨rfl, rfl⟩) | (go_at_call 61; with_reducible refine (H2.out _).mono ?_; rintro e w' ⟨rfl, rfl⟩) | (go_at_call 62; refine (HC.out _ (Ext.refl _)).mono ?_; rintro e w1 ⟨rfl, hx1⟩) | (go_at_call 64; refine (HBE.out _ hx1).mono ?_; rintro e w2 ⟨la, ln, lc, rfl, hT2, hm2, ho2⟩))
  obtain ⟨W3, hW3⟩ : ∃ W3, W3 = w2.alloc (.cells #[.slice la ln lc, .int .i64 R.2] 121) := ⟨_, rfl⟩
  have hx3 : Ext w2 W3 := by rw [hW3]; exact (Ext.refl w2).alloc _
  have r0 : W3.cell? ⟨w2.heap.size, 0, none⟩ = some (.slice la ln lc) := by rw [hW3]; go_simp
  have r1 : W3.cell? ⟨w2.heap.size, 1, none⟩ = some (.int .i64 R.2) := by rw [hW3]; go_simp
  have hxw : Ext w W3 := (Touch.ext hx1 (Touch.of_new ((Touch.of_ext (M := (· = w1.heap.size)) ((Ext.refl w1).alloc (.map #[] 0))).trans hT2) (fun j hj hl => hj)) (fun j hj => by have := hx1.size; omega)).trans hx3
  have HCL := Lib.hid (fun (W4 : World) (h : Ext W3 W4) => clone_any (.slice la ln lc) R.1 W4 ((ho2.ints.ext hx3).ext h) hRl)
  have HF := Lib.hid (fun (W4 : World) (h : Ext W3 W4) => (⟨h.cell r0, h.cell r1⟩ : _ ∧ _))
  have HXW := Lib.hid hxw
  rw [← hW3]
  clear hW3 hx3 r0 r1 hT2 hm2 ho2 hxw HBE HC H1 H2 hmm
  refine wp_region_held_drew (S := (fun W' => W'.cell? ⟨w2.heap.size, 0, none⟩ = some (.slice la ln lc) ∧ W'.cell? ⟨w2.heap.size, 1, none⟩ = some (.int .i64 R.2))) (by kernel_rfl) ?_ (fun hHeld => ?_)
  ·exact HF.out _ (Ext.refl W3).drew
  refine hTk (i := 0) (d := some 26) (v := ?_) (fun o ho => ?_) hHeld ?_
  rotate_left
  ·simp only [zA, zB, zD] at ho
   subst ho
   refine ⟨by rfl, fun w hSw => ?_⟩
   (try dsimp only at hSw)
   go_simp
   try with_reducible rfl
  try simp only [Act.put, yA, yB, yC]
  refine hTk (i := 1) (d := some 27) (v := ?_) (fun o ho => ?_) hHeld ?_
  rotate_left
  ·simp only [zA, zB, zC, zD] at ho
   subst ho
   refine ⟨by rfl, fun w hSw => ?_⟩
   (try dsimp only at hSw)
   go_simp
   try with_reducible rfl
  try simp only [Act.put, yA, yB, yC]
  refine hTk (i := 3) (d := some 29) (v := ?_) (fun o ho => ?_) hHeld ?_
  rotate_left
  ·simp only [zA, zB, zC, zD] at ho
   subst ho
   refine ⟨by rfl, fun w hSw => ?_⟩
   (try dsimp only at hSw)
   go_simp
   try with_reducible rfl
  try simp only [Act.put, yA, yB, yC]
  refine hTk (i := 4) (d := some 30) (v := ?_) (fun o ho => ?_) hHeld ?_
  rotate_left
  ·simp only [zA, zB, zC, zD] at ho
   subst ho
   refine ⟨by rfl, fun w hSw => ?_⟩
   (try dsimp only at hSw)
   go_simp
   try with_reducible rfl
  try simp only [Act.put, yA, yB, yC]
  refine wpAnyH_ready (rs := [2]) (by kernel_rfl) (by simp) ?_
  refine held_step (i := 2) (by kernel_rfl) (fun o ho K' hK => ?_) ?_
  ·simp only [zA, zB, zC, zD] at ho
   subst ho
   go_simp
   go_at_call 65
   refine (HCL.out _ eC).mono ?_
   rintro r w4 ⟨cv, rfl, hown4, hz⟩
   have hyw4 : Ext W3 w4 := Ext.trans eC hz
   have hi4 : IntsAt w4 cv R.1 := RowAt.of_owns hown4
   obtain ⟨ca, cc, rfl, _⟩ := hi4.open
   clear hz
   try go_simp
   refine hK.out _ _ ?_ (fun hHeld => ?_)
   ·exact HF.out _ eC
   clear hK K'
   try simp only [yA, yB, yC]
   refine wpAnyH_ready (rs := [5]) (by kernel_rfl) (by simp) ?_
   refine held_step (i := 5) (by kernel_rfl) (fun o ho K' hK => ?_) ?_
   ·simp only [zA, zB, zC, zD] at ho
    subst ho
    go_simp
    refine hK.out _ _ ?_ (fun hHeld => ?_)
    ·exact HF.out _ eC
    clear hK K'
    try simp only [yA, yB, yC]
    refine wpAnyH_ready (rs := [6]) (by kernel_rfl) (by simp) ?_
    refine held_step (i := 6) (by kernel_rfl) (fun o ho K' hK => ?_) ?_
    ·simp only [zA, zB, zC, zD] at ho
     subst ho
     go_simp
     refine hK.out _ _ ?_ (fun hHeld => ?_)
     ·exact HF.out _ eC
     clear hK K'
     try simp only [yA, yB, yC]
     refine wpAnyH_ready (rs := [7]) (by kernel_rfl) (by simp) ?_
     refine held_step (i := 7) (by kernel_rfl) (fun o ho K' hK => ?_) ?_
     ·simp only [zA, zB, zC, zD] at ho
      subst ho
      go_simp
      refine hK.out _ _ ?_ (fun hHeld => ?_)
      ·exact HF.out _ eC
      clear hK K'
      try simp only [yA, yB, yC]
      refine wpAnyH_done (by kernel_rfl) ?_ _
      try simp only [yA, yB, yC]
      clear hHeld
      go_wp2
      refine bodyPost_ret (v := .tuple #[.slice ca R.1.length cc, .int .i64 R.2, .int .i64 0]) (by simp [results, Tryz.results34, go_sem]) rfl ?_
      exact HYES.out _ _ (HXW.out.trans hyw4) hi4
     exact AllReadyH.nil
    exact AllReadyH.nil
   exact AllReadyH.nil
  exact AllReadyH.nil
end Go.Proofs.YtokananogogjaaaGreatDoor
