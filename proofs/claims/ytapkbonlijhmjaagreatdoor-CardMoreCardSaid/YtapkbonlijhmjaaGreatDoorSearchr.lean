/- search: the state of its last loops. -/
import Derived.Test.YtapkbonlijhmjaaGreatDoorSearchq
import Derived.Deep.RegionHeld3
namespace Go.Proofs.YtapkbonlijhmjaaGreatDoor
open Go.RowKit

structure SrchJ (r : Round) (hv : Value) (w : World) (ob hb : Nat) (free b : Int) (ds : List Deferred) (H : Nat → Int → Prop) (A : Int → Prop) (N : Nat) (t : Bool) (M : Prop) (ov rv : Value) (bs1 bs2 : List Nat) (vals : List Value) (lss : List (List Int)) (W : World) : Prop where
  si : SI r hv w ob hb vals lss ds W
  col : Col r.houses.length lss H A (buttonR r free b)
  len : LenLe lss N
  met : t = true ↔ M
  own : SetsOwn (ownS r free b) (ob + 1) ov r.houses.length bs1 W
  rest : SetsOwn (otherS (ownSs r free b) (r.all + r.off)) (ob + 1) rv r.houses.length bs2 W
section
variable {r : Round} {hv : Value} {w : World} {ob hb : Nat} {free b : Int} {ds : List Deferred} {H H' : Nat → Int → Prop} {A A' : Int → Prop} {N N' : Nat} {t t' : Bool} {M M' : Prop} {ov rv : Value} {bs1 bs2 : List Nat} {vals : List Value} {lss : List (List Int)} {W W' W1 W4 : World}
theorem SrchJ.ext (h : SrchJ r hv w ob hb free b ds H A N t M ov rv bs1 bs2 vals lss W) (hx : Ext W W') : SrchJ r hv w ob hb free b ds H A N t M ov rv bs1 bs2 vals lss W' :=
  ⟨h.si.keep hx, h.col, h.len, h.met, h.own.nc (NC.of_ext hx), h.rest.nc (NC.of_ext hx)⟩
theorem SrchJ.step {sb q : Nat} {S L : Int → Prop} (h : SrchJ r hv w ob hb free b ds H A N t M ov rv bs1 bs2 vals lss W) (hr : RangeAt W sb q S L) (hq : w.heap.size ≤ q) (hg : W.grownBy W' (some q)) : SrchJ r hv w ob hb free b ds H A N t M ov rv bs1 bs2 vals lss W' :=
  ⟨h.si.step hr hq hg, h.col, h.len, h.met, h.own.step hr hg, h.rest.step hr hg⟩
theorem SrchJ.congr (h : SrchJ r hv w ob hb free b ds H A N t M ov rv bs1 bs2 vals lss W) (hH : ∀ i m, i < r.houses.length → (H i m ↔ H' i m)) (hA : ∀ m, A m ↔ A' m) (hN : N ≤ N') (hM : t' = true ↔ M') : SrchJ r hv w ob hb free b ds H' A' N' t' M' ov rv bs1 bs2 vals lss W :=
  ⟨h.si, h.col.congr hH hA (fun _ => Iff.rfl), h.len.mono hN, hM, h.own, h.rest⟩
theorem SrchJ.row (h : SrchJ r hv w ob hb free b ds H A N t M ov rv bs1 bs2 vals lss W) {i : Nat} (hi : i < r.houses.length + 2) :
    ∃ v xs, vals[i]? = some v ∧ lss[i]? = some xs ∧ W.cell? (slotA r.houses.length ob hb i) = some v ∧ W.ownsRow (ob + 1) 3 1 v xs.length (xs.map (.int .i64)) ∧ xs.length ≤ N := by
  have h1 := h.si.out.n2
  have h2 := h.si.out.len
  have hv' : vals[i]? = some (vals[i]'(by omega)) := List.getElem?_eq_getElem (by omega)
  have hl' : lss[i]? = some (lss[i]'(by omega)) := List.getElem?_eq_getElem (by omega)
  exact ⟨_, _, hv', hl', (h.si.out.c i _ hv').1, h.si.out.pool.own i _ _ hv' hl', h.len i _ hl'⟩
section push
variable {i g cap : Nat} {v : Value} {xs : List Int} {x : Int} {ty : TypeId}
/-- What a push leaves: the facts for the store, and all that was kept. -/
theorem SrchJ.push (h : SrchJ r hv w ob hb free b ds H A N t M ov rv bs1 bs2 vals lss W) (hx : Ext W W1) (hv' : vals[i]? = some v) (hl : lss[i]? = some xs)
    (own : W4.ownsRow (ob + 1) 3 1 (.slice (some ⟨g, 0, none⟩) (xs.length + 1) cap) (xs.length + 1) (xs.map (.int .i64) ++ [.int .i64 x])) (hg : (W1.alloc (.cells #[.int .i64 x] ty)).grownBy W4 v.ownBlock) (hloc : v.ownBlock = some g ∨ g = W1.heap.size + 1)
    (hcol : Col r.houses.length (lss.set i (xs ++ [x])) H' A' (buttonR r free b)) (hN : N + 1 ≤ N') (hM : t' = true ↔ M') :
    (W4.cell? (slotA r.houses.length ob hb i) = some v ∧ W4.frozen? (slotA r.houses.length ob hb i) = false ∧ W4.cell? ⟨ob, 0, none⟩ = some (.slice (some ⟨hb, 0, none⟩) r.houses.length r.houses.length)) ∧
    NC (ob + 1) W (W4.setCell (slotA r.houses.length ob hb i) (.slice (some ⟨g, 0, none⟩) (xs.length + 1) cap)) ∧
    SrchJ r hv w ob hb free b ds H' A' N' t' M' ov rv bs1 bs2 (vals.set i (.slice (some ⟨g, 0, none⟩) (xs.length + 1) cap)) (lss.set i (xs ++ [x])) (W4.setCell (slotA r.houses.length ob hb i) (.slice (some ⟨g, 0, none⟩) (xs.length + 1) cap)) := by
  obtain ⟨h1, h2⟩ := h.si.push hx hv' hl own hg hloc
  have h3 := h.si.push_nc hx hv' hl own hg hloc
  exact ⟨h1, h3, h2, hcol, (h.len.push hl).mono hN, hM, h.own.nc h3, h.rest.nc h3⟩
end push
end

/-- append of one element, as one step of a region that draws its order. -/
theorem step_push_at {P : Program} {w : World} {t e size bytes : Nat} {z : Value} (E : Elem P t e size bytes z) {ops : Array Oper} {o : Oper} {a : Act} {K : Act → World → Prop} {Q : Exit → Act → World → Prop} {E' : Prop} (hw : Region.wanted o (yielded ops a.tmps) = true) (s x : Operand)
    (hop : o.op = Op.call { callee := Callee.builtin Builtin.append, args := #[s, x], argTypes := #[t, t] }) (base : Nat) {v : Value} {k : Nat} {xs : List Value} (hs : a.eval s = v) (hown : w.ownsRow base e size v k xs)
    {cs : Array Value} {e' : TypeId} {m : Nat} (hx : a.eval x = .slice (some ⟨m, 0, none⟩) 1 1) (hm : m = w.heap.size) (hl : cs.size = size) (h1 : ∀ u ∈ cs.toList, u.oneCell' = true)
    (hK : ∀ g cap w', w'.ownsRow base e size (.slice (some ⟨g, 0, none⟩) (k + 1) cap) (k + 1) (xs ++ cs.toList) → (w.alloc (.cells cs e')).grownBy w' v.ownBlock → (v.ownBlock = some g ∨ g = w.heap.size + 1) → K (a.put o.dst (.slice (some ⟨g, 0, none⟩) (k + 1) cap)) w') (b1 : k + 1 ≤ maxLen) (b2 : (k + 1) * bytes ≤ 140737488355328) (b3 : base ≤ w.heap.size) :
    if Region.wanted o (yielded ops a.tmps) = true then Oper.wp P o a (w.alloc (.cells cs e')) K Q else E' := by
  rw [if_pos hw]
  subst hm
  obtain ⟨i, hi, hz, hsz, hb⟩ := E.info
  obtain ⟨v', w', hrun, ho, hgr, _, hloc⟩ := run_append_own_at (P := P) (w.alloc (.cells cs e')) base t o.type e i z size bytes E.slice hi hz hsz hb E.zero E.pos v k xs (hown.alloc _) ⟨w.heap.size, 0, none⟩ 1 1 cs.toList (by simp [hl]) (by
    intro j u hj
    obtain ⟨a1, c, hv, _, _, _, h3⟩ := RowAt.new1 w cs e'
    cases hv
    obtain ⟨b, o1, ha, hc⟩ := h3 j u hj
    cases ha
    rcases Nat.eq_zero_or_pos j with rfl | h0
    · simpa [Addr.add] using hc
    · simpa [Addr.add, Nat.ne_of_gt h0] using hc) h1 b1 b2 (by simp; omega)
  obtain ⟨g, cap, rfl⟩ := owns_succ ho
  unfold Oper.wp
  simp [execOp, hop, resolve, invoke, builtin, hs, hx, hrun, Result.andThen]
  refine hK g cap w' ho hgr ?_
  rcases hloc with h | h
  · exact .inl (h ▸ rfl)
  · right; have : some g = some (w.alloc (.cells cs e')).heap.size := h
    simpa using this
theorem E_numbers : Elem Tryz.prog 106 3 1 8 (.int .i64 0) := by
  obtain ⟨i, h1, h2, h3, h4⟩ := info_parts info_int
  exact ⟨Tryz.underlying106, ⟨i, h1, h2, h3, h4⟩, rfl, by decide⟩
theorem owns_low {w : World} {base base' : Nat} {e : TypeId} {size : Nat} {v : Value} {n : Nat} {xs : List Value} (h : w.ownsRow base e size v n xs) (hb : base' ≤ base) : w.ownsRow base' e size v n xs := by
  refine ⟨h.1, ?_⟩
  rcases h.2 with h1 | ⟨g, cap, cur, h1, h2, h3⟩
  · exact .inl h1
  · exact .inr ⟨g, cap, cur, h1, by omega, h3⟩
section
variable {Ss : List (Int → Prop)} {most lo hi : Int} {H0 : Nat → Int → Prop} {A0 : Int → Prop}
theorem H2_zero {i : Nat} {m : Int} : H2 Ss most lo hi H0 0 i m ↔ H0 i m := ⟨fun h => h.elim id (fun h => by omega), .inl⟩
theorem A2_zero {m : Int} : A2 Ss most lo hi A0 0 m ↔ A0 m := ⟨fun h => h.elim id (fun ⟨j, _, h, _⟩ => by omega), .inl⟩
theorem met2_zero (h : met2 Ss most lo hi 0) : False := by obtain ⟨j, _, _, h, _⟩ := h; omega
end
theorem sz_of {n N : Nat} (h1 : n ≤ N) (h2 : N ≤ 5 * perB) : n + 1 ≤ maxLen ∧ (n + 1) * 8 ≤ 140737488355328 := by
  unfold perB at h2; unfold maxLen; omega

theorem SI.fz {r : Round} {hv : Value} {w : World} {ob hb : Nat} {vals : List Value} {lss : List (List Int)} {ds : List Deferred} {W : World} (h : SI r hv w ob hb vals lss ds W) :
    W.frozen? ⟨w.heap.size + 1, 0, none⟩ = false ∧ W.frozen? ⟨w.heap.size + 1, 1, none⟩ = false ∧ W.frozen? ⟨w.heap.size + 1, 2, none⟩ = false := by
  have h0 := h.fb
  simp [World.frozen?, h0]
theorem OutM.slices {n ob hb B : Nat} {vals : List Value} {lss : List (List Int)} {W : World} (h : OutM n ob hb B vals lss W) {i : Nat} (hi : i < n + 2) : ∃ a k c, vals.getD i undef = .slice a k c := by
  have h1 := h.n2
  have h2 := h.len
  have hv : vals[i]? = some (vals[i]'(by omega)) := List.getElem?_eq_getElem (by omega)
  have hl : lss[i]? = some (lss[i]'(by omega)) := List.getElem?_eq_getElem (by omega)
  have hg : vals.getD i undef = vals[i]'(by omega) := by rw [List.getD_eq_getElem?_getD, hv]; rfl
  rw [hg]
  rcases (h.pool.own i _ _ hv hl).2 with ⟨e, _⟩ | ⟨g, cap, cur, e, _⟩
  · exact ⟨_, _, _, e⟩
  · exact ⟨_, _, _, e⟩
/-! ### The end -/
theorem ext_marks {w A B : World} (h : Ext w A) (hk : ∀ (k : Nat) (o : Obj), A.heap[k]? = some o → (k < w.heap.size ∨ ∀ l, o ≠ .deferred l) → B.heap[k]? = some o) (k1 : B.os = A.os) (k2 : B.tape = A.tape) (k3 : B.output = A.output) (k4 : A.heap.size ≤ B.heap.size) : Ext w B :=
  ⟨k1.trans (Below.os h), k2.trans (Below.tape h), k3.trans (Below.output h), Nat.le_trans h.size k4, fun i hi => by
    have hs := h.size
    obtain ⟨o, ho⟩ : ∃ o, A.heap[i]? = some o := ⟨_, Array.getElem?_eq_getElem (by omega)⟩
    rw [hk i o ho (.inl hi), ← ho]; exact Below.block h i hi⟩
theorem OutM.keep {n ob hb B b : Nat} {vals : List Value} {lss : List (List Int)} {W W' : World} (h : OutM n ob hb B vals lss W) (b1 : b ≠ ob) (b2 : b ≠ hb) (b3 : b < B) (hk : ∀ (k : Nat) (o : Obj), k ≠ b → W.heap[k]? = some o → o.isCells = true → W'.heap[k]? = some o) : OutM n ob hb B vals lss W' := by
  have key : ∀ (a : Addr) (v : Value), a.block ≠ b → W.cell? a = some v → W'.cell? a = some v ∧ W'.frozen? a = W.frozen? a := fun a v ha hc => by
    obtain ⟨o, ho, hi⟩ := cells_of_cell hc
    have e : W'.heap[a.block]? = W.heap[a.block]? := (hk _ o ha ho hi).trans ho.symm
    exact ⟨(World.cell?_of_block e).trans hc, World.frozen?_of_block e⟩
  refine ⟨⟨h.pool.len, fun i v xs hv hx => ⟨(h.pool.own i v xs hv hx).1, ?_⟩, h.pool.dis⟩, h.n2, (key _ _ (Ne.symm b1) h.c0).1, fun i v hv => ?_, h.lt, h.ne⟩
  · rcases (h.pool.own i v xs hv hx).2 with h1 | ⟨g, cap, cur, h1, h2, h3, h4⟩
    · exact .inl h1
    · exact .inr ⟨g, cap, cur, h1, h2, hk g _ (by omega) h3 rfl, h4⟩
  · obtain ⟨h1, h2⟩ := h.c i v hv
    obtain ⟨h3, h4⟩ := key _ _ (by rcases slotA_block n ob hb i with e | e <;> rw [e] <;> omega) h1
    exact ⟨h3, h4.trans h2⟩
theorem setCell_block {w : World} {b i : Nat} {v : Value} {c : Array Value} {e : TypeId} {f : Nat × Nat} (h : w.heap[b]? = some (.cells c e f)) : (w.setCell ⟨b, i, none⟩ v).heap[b]? = some (.cells (c.setIfInBounds i v) e f) := by
  simp [World.setCell, Array.getElem?_modify, h]
theorem search_end {r : Round} {hv : Value} {w : World} {ob hb : Nat} {free b : Int} {ds : List Deferred} {vals : List Value} {lss : List (List Int)} {W W' : World} {x0 x1 x2 : Value} (h : SrchI r hv w ob hb free b vals lss ds W) (hn : r.houses.length ≤ maxLen)
    (hx : Value.agg #[x0, x1, x2] = .agg #[.slice (some ⟨hb, 0, none⟩) r.houses.length r.houses.length, vals.getD r.houses.length undef, vals.getD (r.houses.length + 1) undef])
    (hk : ∀ (k : Nat) (o : Obj), (((W.setCell ⟨w.heap.size + 1, 0, none⟩ x0).setCell ⟨w.heap.size + 1, 1, none⟩ x1).setCell ⟨w.heap.size + 1, 2, none⟩ x2).heap[k]? = some o → (k < w.heap.size ∨ ∀ l, o ≠ .deferred l) → W'.heap[k]? = some o) :
    W'.heap[w.heap.size + 1]? = some (.cells #[x0, x1, x2] 108 (0, 0)) ∧ FoundAt w.heap.size W' (.agg #[x0, x1, x2]) r.houses.length lss := by
  have hfb := h.si.fb
  have hlo := h.si.lo
  have hlt := h.si.out.lt
  have hsz := (Array.getElem?_eq_some_iff.1 hfb).1
  have hbl : (((W.setCell ⟨w.heap.size + 1, 0, none⟩ x0).setCell ⟨w.heap.size + 1, 1, none⟩ x1).setCell ⟨w.heap.size + 1, 2, none⟩ x2).heap[w.heap.size + 1]? = some (.cells #[x0, x1, x2] 108 (0, 0)) := by
    have s1 := setCell_block (i := 0) (v := x0) hfb
    have s2 := setCell_block (i := 1) (v := x1) s1
    exact setCell_block (i := 2) (v := x2) s2
  refine ⟨hk _ _ hbl (.inr (fun l e => by cases e)), ?_⟩
  rw [hx]
  refine (h.si.out.keep (b := w.heap.size + 1) (by omega) (by omega) (by omega) (fun k o hne ho hc => ?_)).found hn (by omega) (by omega)
  refine hk k o ?_ (.inr (fun l e => by subst e; cases hc))
  rw [Below.heap_setCell _ _ _ _ hne, Below.heap_setCell _ _ _ _ hne, Below.heap_setCell _ _ _ _ hne]; exact ho
/-! ### From one weight to the next -/
theorem houseR_next {r : Round} {free b : Int} (hb : r.lo ≤ b) (i : Nat) (m : Int) (hi : i < r.houses.length) : H2 (ownSs r free b) (r.all + r.off) (r.all - r.off) (r.all + r.off) (houseR r free b) r.houses.length i m ↔ houseR r free (b + 1) i m := by
  unfold H2 houseR HitR; constructor
  · rintro (⟨b', h1, h2, h3⟩ | ⟨_, h3⟩)
    · exact ⟨b', h1, by omega, h3⟩
    · exact ⟨b, hb, by omega, h3⟩
  · rintro ⟨b', h1, h2, h3⟩
    by_cases e : b' = b
    · subst e; exact .inr ⟨hi, h3⟩
    · exact .inl ⟨b', h1, by omega, h3⟩
theorem allR_next {r : Round} {free b : Int} (hb : r.lo ≤ b) (m : Int) : A2 (ownSs r free b) (r.all + r.off) (r.all - r.off) (r.all + r.off) (allR r free b) r.houses.length m ↔ allR r free (b + 1) m := by
  unfold A2 allR HitR; constructor
  · rintro (⟨b', h1, h2, h3⟩ | h3)
    · exact ⟨b', h1, by omega, h3⟩
    · exact ⟨b, hb, by omega, h3⟩
  · rintro ⟨b', h1, h2, h3⟩
    by_cases e : b' = b
    · subst e; exact .inr h3
    · exact .inl ⟨b', h1, by omega, h3⟩
theorem buttonR_no {r : Round} {free b : Int} (h : ¬ met2 (ownSs r free b) (r.all + r.off) (r.all - r.off) (r.all + r.off) r.houses.length) (m : Int) : buttonR r free b m ↔ buttonR r free (b + 1) m := by
  unfold buttonR HitR; constructor
  · rintro ⟨h1, h2, h3⟩; exact ⟨h1, by omega, h3⟩
  · rintro ⟨h1, h2, h3⟩
    by_cases e : m = b
    · subst e; exact absurd h3 h
    · exact ⟨h1, by omega, h3⟩
theorem buttonR_yes {r : Round} {free b : Int} (hb : r.lo ≤ b) (h : met2 (ownSs r free b) (r.all + r.off) (r.all - r.off) (r.all + r.off) r.houses.length) (m : Int) : (buttonR r free b m ∨ m = b) ↔ buttonR r free (b + 1) m := by
  unfold buttonR HitR; constructor
  · rintro (⟨h1, h2, h3⟩ | rfl)
    · exact ⟨h1, by omega, h3⟩
    · exact ⟨hb, by omega, h⟩
  · rintro ⟨h1, h2, h3⟩
    by_cases e : m = b
    · exact .inr e
    · exact .inl ⟨h1, by omega, h3⟩
theorem perB_next {r : Round} {b : Int} (hb : r.lo ≤ b) (hn : r.houses.length ≤ 4) : (b - r.lo).toNat * perB + r.houses.length * (20001 * 202) + 1 ≤ (b + 1 - r.lo).toNat * perB := by
  have h1 : (b + 1 - r.lo).toNat = (b - r.lo).toNat + 1 := by omega
  have h2 : r.houses.length * (20001 * 202) ≤ 4 * (20001 * 202) := Nat.mul_le_mul_right _ hn
  have h3 : r.houses.length * (20001 * 202) + 1 ≤ perB := Nat.succ_le_succ h2
  rw [h1, Nat.add_mul, Nat.one_mul, Nat.add_assoc]
  exact Nat.add_le_add_left h3 _
section done
variable {r : Round} {hv : Value} {w : World} {ob hb : Nat} {free b : Int} {ds : List Deferred} {N0 : Nat} {t : Bool} {ov rv : Value} {bs1 bs2 : List Nat} {vals : List Value} {lss : List (List Int)} {W : World}
/-- A weight is done at which nothing was met. -/
theorem SrchJ.noneMet (h : SrchJ r hv w ob hb free b ds (H2 (ownSs r free b) (r.all + r.off) (r.all - r.off) (r.all + r.off) (houseR r free b) r.houses.length) (A2 (ownSs r free b) (r.all + r.off) (r.all - r.off) (r.all + r.off) (allR r free b) r.houses.length) (N0 + r.houses.length * (20001 * 202)) t (met2 (ownSs r free b) (r.all + r.off) (r.all - r.off) (r.all + r.off) r.houses.length) ov rv bs1 bs2 vals lss W)
    (hb1 : r.lo ≤ b) (hn : r.houses.length ≤ 4) (hN : N0 = (b - r.lo).toNat * perB) (ht : ¬ met2 (ownSs r free b) (r.all + r.off) (r.all - r.off) (r.all + r.off) r.houses.length) : SrchI r hv w ob hb free (b + 1) vals lss ds W :=
  ⟨h.si, h.col.congr (fun i m hi => houseR_next hb1 i m hi) (allR_next hb1) (buttonR_no ht), h.len.mono (by rw [hN]; exact Nat.le_trans (Nat.le_succ _) (perB_next hb1 hn))⟩
theorem SrchJ.someMet {W1 W4 : World} {g cap : Nat} {v : Value} {xs : List Int} {ty : TypeId} (h : SrchJ r hv w ob hb free b ds (H2 (ownSs r free b) (r.all + r.off) (r.all - r.off) (r.all + r.off) (houseR r free b) r.houses.length) (A2 (ownSs r free b) (r.all + r.off) (r.all - r.off) (r.all + r.off) (allR r free b) r.houses.length) (N0 + r.houses.length * (20001 * 202)) t (met2 (ownSs r free b) (r.all + r.off) (r.all - r.off) (r.all + r.off) r.houses.length) ov rv bs1 bs2 vals lss W)
    (hb1 : r.lo ≤ b) (hn : r.houses.length ≤ 4) (hN : N0 = (b - r.lo).toNat * perB) (ht : met2 (ownSs r free b) (r.all + r.off) (r.all - r.off) (r.all + r.off) r.houses.length)
    (hx : Ext W W1) (hv' : vals[r.houses.length + 1]? = some v) (hl : lss[r.houses.length + 1]? = some xs)
    (own : W4.ownsRow (ob + 1) 3 1 (.slice (some ⟨g, 0, none⟩) (xs.length + 1) cap) (xs.length + 1) (xs.map (.int .i64) ++ [.int .i64 b])) (hg : (W1.alloc (.cells #[.int .i64 b] ty)).grownBy W4 v.ownBlock) (hloc : v.ownBlock = some g ∨ g = W1.heap.size + 1) :
    (W4.cell? ⟨ob, 2, none⟩ = some v ∧ W4.frozen? ⟨ob, 2, none⟩ = false) ∧
    SrchI r hv w ob hb free (b + 1) (vals.set (r.houses.length + 1) (.slice (some ⟨g, 0, none⟩) (xs.length + 1) cap)) (lss.set (r.houses.length + 1) (xs ++ [b])) ds (W4.setCell ⟨ob, 2, none⟩ (.slice (some ⟨g, 0, none⟩) (xs.length + 1) cap)) := by
  obtain ⟨h1, h2⟩ := h.si.push hx hv' hl own hg hloc
  have hslot : slotA r.houses.length ob hb (r.houses.length + 1) = ⟨ob, 2, none⟩ := by unfold slotA; rw [if_neg (by omega), if_neg (by omega)]
  rw [hslot] at h1 h2
  exact ⟨⟨h1.1, h1.2.1⟩, h2, (h.col.button hl).congr (fun i m hi => houseR_next hb1 i m hi) (allR_next hb1) (buttonR_yes hb1 ht), (h.len.push hl).mono (by rw [hN]; exact perB_next hb1 hn)⟩
end done
end Go.Proofs.YtapkbonlijhmjaaGreatDoor

/- Regions that draw their order: operations taken first under a condition on the world that is asked only while something may still come up (beside the kit's law, in which the last store must keep it too). -/
namespace Go.Proofs.YtapkbonlijhmjaaGreatDoor

section
variable {P : Program} {ops : Array Oper} {Q : Exit → Act → World → Prop} {md : Region.Mode} {S : World → Prop}

/-- Whatever order is picked from here on; S holds behind every operation but number z, which waits for all others. -/
def wpTill (P : Program) (md : Region.Mode) (ops : Array Oper) (Q : Exit → Act → World → Prop) (S : World → Prop) (z : Nat) : Nat → Array Bool → Act → World → Prop
  | 0, l, a, w => Region.ready md ops l = [] ∧ Q .normal a w
  | n + 1, l, a, w => (Region.ready md ops l = [] → Q .normal a w) ∧
    ∀ i, i ∈ Region.ready md ops l → wpOp P ops Q i (fun b v => (i ≠ z → S v) ∧ wpTill P md ops Q S z n (l.setIfInBounds i true) b v) a w

theorem wpAny_of_till {z : Nat} : ∀ (n : Nat) (l : Array Bool) (a : Act) (w : World), wpTill P md ops Q S z n l a w → wpAny P md ops Q n l a w
  | 0, _, _, _, h => h
  | n + 1, _, _, _, h => ⟨h.1, fun i hi => wpOp_mono (fun _ _ k => wpAny_of_till n _ _ _ k.2) (h.2 i hi)⟩

theorem till_first {z i : Nat} {o : Oper} {v : Value} (hz : ∀ x, ops[z]? = some x → ∃ e, e ∈ x.after ∧ Region.binds md e = true ∧ e.on = i) (hi : ops[i]? = some o) (hsel : ∀ (j : Nat) (x : Oper) cs b, ops[j]? = some x → x.op ≠ .select cs b)
    (hQ : ∀ c a w, Q (.panic c) (a.put o.dst v) w → Q (.panic c) a w) :
    ∀ (n : Nat) (l : Array Bool) (a : Act) (w : World),
      (∀ j x, ops[j]? = some x → j ≠ i → l.getD j true = false → (∀ e ∈ x.after, Region.binds md e = true → e.on ≠ i) → o.apart ops x = true) →
      i ∈ Region.ready md ops l → YieldsIf P ops S o v a → S w →
      wpTill P md ops Q S z n (l.setIfInBounds i true) (a.put o.dst v) w → wpTill P md ops Q S z (n + 1) l a w := by
  intro n
  induction n with
  | zero =>
    intro l a w _ hr hy hS k
    refine ⟨fun e => (by rw [e] at hr; cases hr), fun j hj => ?_⟩
    by_cases e : j = i
    · subst e
      exact hy.wpOp hi hS ⟨fun _ => hS, k⟩
    · have := ready_mono hj e
      rw [k.1] at this
      cases this
  | succ n ih =>
    intro l a w hf hr hy hS k
    refine ⟨fun e => (by rw [e] at hr; cases hr), fun j hj => ?_⟩
    by_cases e : j = i
    · subst e
      exact hy.wpOp hi hS ⟨fun _ => hS, k⟩
    · have k1 := k.2 j (ready_mono hj e)
      obtain ⟨hju, x, hx, hall⟩ := mem_ready.1 hj
      have hno : ∀ e ∈ x.after, Region.binds md e = true → e.on ≠ i := fun z hz hb h => by
        have g1 := hall z hz hb
        have g0 := (mem_ready.1 hr).1
        rw [h] at g1
        rcases Nat.lt_or_ge i l.size with q | q
        · simp [q] at g0 g1; rw [g0] at g1; cases g1
        · simp [Array.getElem?_eq_none q] at g1
      have k2 := wpOp_putIf hx (hf j x hx e hju hno) (fun cs b => hsel i o cs b hi) (fun cs b => hsel j x cs b hx) hQ hy k1
      have hr2 := ready_mono hr (Ne.symm e)
      refine wpOp_mono (fun b u k3 => ?_) k2
      have hjz : j ≠ z := fun h => by
        subst h
        obtain ⟨y, hy1, hy2, hy3⟩ := hz x hx
        exact hno y hy1 hy2 hy3
      have hSu := k3.2.1 hjz
      have hf2 : ∀ m x, ops[m]? = some x → m ≠ i → (l.setIfInBounds j true).getD m true = false → (∀ e ∈ x.after, Region.binds md e = true → e.on ≠ i) → o.apart ops x = true := fun m x hm hmi hun hn => by
        refine hf m x hm hmi ?_ hn
        by_cases q : j = m
        · subst q; exact hju
        · rw [getD_set_ne true q] at hun; exact hun
      refine ⟨fun _ => hSu, ih (l.setIfInBounds j true) b u hf2 hr2 k3.1 hSu ?_⟩
      rw [Array.setIfInBounds_comm _ _ e]
      exact k3.2.2

theorem till_take {z i : Nat} {o : Oper} {v : Value} {n : Nat} {l : Array Bool} {a : Act} {w : World} (hi : ops[i]? = some o) (hz : (ops[z]?.map fun x => x.after.toList.any fun e => Region.binds md e && e.on == i) = some true)
    (hs : Region.noSelect ops = true) (hf : Region.free md ops l i = true) (hr : (Region.ready md ops l).contains i = true)
    (hQ : ∀ c a w, Q (.panic c) (a.put o.dst v) w → Q (.panic c) a w) (hy : YieldsIf P ops S o v a) (hS : S w)
    (h : wpTill P md ops Q S z n (l.setIfInBounds i true) (a.put o.dst v) w) : wpTill P md ops Q S z (n + 1) l a w := by
  refine till_first (fun x hx => ?_) hi (Region.noSelect_spec hs) hQ n l a w (Region.free_spec hi hf) (by simpa using hr) hy hS h
  rw [hx] at hz
  simp only [Option.map_some, Option.some.injEq, List.any_eq_true, Bool.and_eq_true, beq_iff_eq] at hz
  obtain ⟨e, h1, h2, h3⟩ := hz
  exact ⟨e, by simpa using h1, h2, h3⟩

/-- Only number i may come up now. -/
theorem till_one {z i : Nat} {n : Nat} {l : Array Bool} {a : Act} {w : World} (hr : Region.ready md ops l = [i])
    (h : wpOp P ops Q i (fun b v => (i ≠ z → S v) ∧ wpTill P md ops Q S z n (l.setIfInBounds i true) b v) a w) : wpTill P md ops Q S z (n + 1) l a w :=
  ⟨fun e => (by rw [hr] at e; cases e), fun j hj => by
    rw [hr, List.mem_singleton] at hj
    subst hj
    exact h⟩
theorem till_done {z : Nat} {l : Array Bool} {a : Act} {w : World} (hr : Region.ready md ops l = []) (h : Q .normal a w) : ∀ n, wpTill P md ops Q S z n l a w
  | 0 => ⟨hr, h⟩
  | _ + 1 => ⟨fun _ => h, by rw [hr]; simp⟩
/-! ### Operations by number alone: what they are is asked only where they are looked at -/
theorem till_at {z i : Nat} {d : Option Tmp} {v : Value} {n : Nat} {l : Array Bool} {a : Act} {w : World} (hd : (ops[i]?).map (fun o => o.dst) = some d)
    (hz : (ops[z]?.map fun x => x.after.toList.any fun e => Region.binds md e && e.on == i) = some true)
    (hs : Region.noSelect ops = true) (hf : Region.free md ops l i = true) (hr : (Region.ready md ops l).contains i = true)
    (hQ : ∀ c a w, Q (.panic c) (a.put d v) w → Q (.panic c) a w) (hy : ∀ o, ops[i]? = some o → YieldsIf P ops S o v a) (hS : S w)
    (h : wpTill P md ops Q S z n (l.setIfInBounds i true) (a.put d v) w) : wpTill P md ops Q S z (n + 1) l a w := by
  cases ho : ops[i]? with
  | none => rw [ho] at hd; cases hd
  | some o =>
    rw [ho] at hd
    obtain rfl : o.dst = d := by simpa using hd
    exact till_take ho hz hs hf hr hQ (hy o ho) hS h
theorem till_step {z i : Nat} {n : Nat} {l : Array Bool} {a : Act} {w : World} (hr : Region.ready md ops l = [i]) (hi : (ops[i]?).isSome = true)
    (h : ∀ o, ops[i]? = some o → ∀ K' : Act → World → Prop, Shut (∀ b v, (i ≠ z → S v) → ((i ≠ z → S v) → wpTill P md ops Q S z n (l.setIfInBounds i true) b v) → K' b v) →
      if Region.wanted o (yielded ops a.tmps) = true then Oper.wp P o a w K' Q else K' (a.put o.dst undef) w) : wpTill P md ops Q S z (n + 1) l a w := by
  obtain ⟨o, ho⟩ := Option.isSome_iff_exists.1 hi
  exact till_one hr (wpOp_step ho (fun K' hK => h o ho K' (fun b v h1 h2 => hK b v ⟨h1, h2 h1⟩)))
theorem held_at {i : Nat} {d : Option Tmp} {v : Value} {n : Nat} {l : Array Bool} {a : Act} {w : World} (hd : (ops[i]?).map (fun o => o.dst) = some d)
    (hs : Region.noSelect ops = true) (hf : Region.free md ops l i = true) (hr : (Region.ready md ops l).contains i = true)
    (hQ : ∀ c a w, Q (.panic c) (a.put d v) w → Q (.panic c) a w) (hy : ∀ o, ops[i]? = some o → YieldsIf P ops S o v a) (hS : S w)
    (h : wpAnyH P md ops Q S n (l.setIfInBounds i true) (a.put d v) w) : wpAnyH P md ops Q S (n + 1) l a w := by
  cases ho : ops[i]? with
  | none => rw [ho] at hd; cases hd
  | some o =>
    rw [ho] at hd
    obtain rfl : o.dst = d := by simpa using hd
    exact wpAnyH_take ho hs hf hr hQ (hy o ho) hS h
theorem held_step {i : Nat} {n : Nat} {l : Array Bool} {a : Act} {w : World} {rs : List Nat} (hi : (ops[i]?).isSome = true)
    (h : ∀ o, ops[i]? = some o → ∀ K' : Act → World → Prop, Shut (∀ b v, S v → (S v → wpAnyH P md ops Q S n (l.setIfInBounds i true) b v) → K' b v) →
      if Region.wanted o (yielded ops a.tmps) = true then Oper.wp P o a w K' Q else K' (a.put o.dst undef) w) (hs : AllReadyH P md ops Q S n l a w rs) : AllReadyH P md ops Q S n l a w (i :: rs) := by
  obtain ⟨o, ho⟩ := Option.isSome_iff_exists.1 hi
  exact AllReadyH.cons ho (fun K' hK => h o ho K' hK) hs
end
end Go.Proofs.YtapkbonlijhmjaaGreatDoor
