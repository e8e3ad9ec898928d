/- others: for each of some sets, the sums of a number of each other one. -/
import Derived.Test.YtjbeiclfggjbmaaGreatDoorWith
import Derived.Test.YtjbeiclfggjbmaaGreatDoorPush
import Derived.Laws.OwnMore
namespace Go.Proofs.YtjbeiclfggjbmaaGreatDoor
open Go.RowKit

/-! ### In plain Lean -/
def zeroS : Int → Prop := fun n => n = 0
def setN (Ss : List (Int → Prop)) (i : Nat) : Int → Prop := Ss.getD i (fun _ => False)
/-- The sums of a number of each of the first k sets. -/
def befS (Ss : List (Int → Prop)) (most : Int) : Nat → Int → Prop
  | 0 => zeroS
  | k + 1 => withS (befS Ss most k) (setN Ss k) most
/-- .. of each of the last j sets. -/
def aftS (Ss : List (Int → Prop)) (most : Int) : Nat → Int → Prop
  | 0 => zeroS
  | j + 1 => withS (aftS Ss most j) (setN Ss (Ss.length - 1 - j)) most
def otherS (Ss : List (Int → Prop)) (most : Int) (i : Nat) : Int → Prop := withS (befS Ss most i) (aftS Ss most (Ss.length - 1 - i)) most

/-! ### In memory -/
abbrev mapV (b : Nat) : Value := .map (some b)
/-- A slice of sets. -/
def SetsAt (W : World) (v : Value) (Ss : List (Int → Prop)) : Prop := ∃ bs : List Nat, bs.length = Ss.length ∧ RowAt W v Ss.length (bs.map mapV) ∧ ∀ (i b : Nat), bs[i]? = some b → SetAt W b (setN Ss i)
theorem SetsAt.ext {W W' : World} {v : Value} {Ss : List (Int → Prop)} (h : SetsAt W v Ss) (k : Ext W W') : SetsAt W' v Ss := by
  obtain ⟨bs, h1, h2, h3⟩ := h
  exact ⟨bs, h1, h2.ext k, fun i b hb => (h3 i b hb).ext k⟩
theorem SetsAt.open {W : World} {v : Value} {Ss : List (Int → Prop)} (h : SetsAt W v Ss) : ∃ a c, v = .slice a Ss.length c ∧ Ss.length ≤ c ∧ c ≤ 9223372036854775807 ∧ ∀ i, i < Ss.length → ∃ b o m, a = some ⟨b, o, none⟩ ∧ W.cell? ⟨b, o + i, none⟩ = some (.map (some m)) ∧ SetAt W m (setN Ss i) := by
  obtain ⟨bs, h1, h2, h3⟩ := h
  obtain ⟨a, c, hv, r1, r2, r3⟩ := h2.open
  refine ⟨a, c, hv, r1, r2, fun i hi => ?_⟩
  have hb : bs[i]? = some bs[i] := by simp
  obtain ⟨b, o, ha, hc⟩ := r3 i (mapV bs[i]) (by rw [List.getElem?_map, hb]; rfl)
  exact ⟨b, o, bs[i], ha, hc, h3 i _ hb⟩
theorem info_set : (Tryz.prog.info? 184).map (fun i => (i.zero, i.size, i.bytes)) = some (some (.map none), 1, 8) := by kernel_rfl
theorem E_sets : Elem Tryz.prog 182 184 1 8 (.map none) := by
  obtain ⟨i, h1, h2, h3, h4⟩ := info_parts info_set
  exact ⟨Tryz.underlying182, ⟨i, h1, h2, h3, h4⟩, rfl, by decide⟩
theorem owns_one {w : World} {base : Nat} {e : TypeId} (x : Value) (hb : base ≤ w.heap.size) : (w.alloc (.cells #[x] e)).ownsRow base e 1 (.slice (some ⟨w.heap.size, 0, none⟩) 1 1) 1 [x] :=
  ⟨rfl, .inr ⟨w.heap.size, 1, #[x], rfl, hb, World.alloc_heap_new w _, Nat.le_refl _, one_le_maxLen, rfl, rfl⟩⟩
theorem SetAt.zero {W : World} {b : Nat} (h : SetAt W b (fun m => False ∨ m = 0)) : SetAt W b zeroS := h.congr (fun n => by simp [zeroS])
theorem setN_at {Ss : List (Int → Prop)} {i : Nat} {S : Int → Prop} (h : Ss[i]? = some S) : setN Ss i = S := by unfold setN; rw [List.getD_eq_getElem?_getD, h]; rfl

theorem set_ne_row {W : World} {b base : Nat} {e : TypeId} {size : Nat} {v : Value} {n : Nat} {xs : List Value} {S : Int → Prop} (h : SetAt W b S) (ho : W.ownsRow base e size v n xs) : some b ≠ v.ownBlock := by
  obtain ⟨o, hb, hc⟩ := h.obj
  rcases ho.2 with ⟨rfl, _⟩ | ⟨g, cap, cur, rfl, _, hg, _⟩
  · simp [Value.ownBlock]
  · intro e
    have : b = g := by simpa [Value.ownBlock] using e
    subst this
    rw [hb] at hg; cases hg; cases hc
/-- The slice before, when k sets have been gone through. -/
structure BefAt (Ss : List (Int → Prop)) (most : Int) (w : World) (g cap k : Nat) (bs : List Nat) (W : World) : Prop where
  own : W.ownsRow w.heap.size 184 1 (.slice (some ⟨g, 0, none⟩) (k + 1) cap) (k + 1) (bs.map mapV)
  len : bs.length = k + 1
  sets : ∀ (i b : Nat), bs[i]? = some b → SetAt W b (befS Ss most i)
theorem BefAt.ext {Ss : List (Int → Prop)} {most : Int} {w : World} {g cap k : Nat} {bs : List Nat} {W W' : World} (h : BefAt Ss most w g cap k bs W) (hx : Ext W W') : BefAt Ss most w g cap k bs W' :=
  ⟨owns_ext h.own hx, h.len, fun i b hb => (h.sets i b hb).ext hx⟩
theorem BefAt.kept {Ss : List (Int → Prop)} {most : Int} {w : World} {g cap k : Nat} {bs : List Nat} {W W' : World} {og : Nat} (h : BefAt Ss most w g cap k bs W) (hg : W.grownBy W' (some og)) (hn : g ≠ og) (hc : ∃ c e f, W.heap[og]? = some (.cells c e f)) : BefAt Ss most w g cap k bs W' :=
  ⟨h.own.kept hg (.inr (by simp [Value.ownBlock]; exact hn)), h.len, fun i b hb => (h.sets i b hb).kept hg (fun e => by
    obtain ⟨o, h1, h2⟩ := (h.sets i b hb).obj
    obtain ⟨c, t, f, h3⟩ := hc
    cases e; rw [h1] at h3; cases h3; cases h2)⟩

theorem bef_step {Ss : List (Int → Prop)} {most : Int} {w : World} {g cap k : Nat} {bs : List Nat} {W w2 w4 : World} {b2 g2 cap2 : Nat} (h : BefAt Ss most w g cap k bs W) (hx : Ext W w2) (hs : SetAt w2 b2 (withS (befS Ss most k) (setN Ss k) most))
    (hown : w4.ownsRow w.heap.size 184 1 (.slice (some ⟨g2, 0, none⟩) (k + 1 + 1) cap2) (k + 1 + 1) (bs.map mapV ++ [.map (some b2)])) (hg : (w2.alloc (.cells #[.map (some b2)] 184)).grownBy w4 (some g)) : BefAt Ss most w g2 cap2 (k + 1) (bs ++ [b2]) w4 := by
  have ho2 := owns_ext h.own hx
  have key : ∀ (b : Nat) (S : Int → Prop), SetAt w2 b S → SetAt w4 b S := fun b S hb => by
    have hn := set_ne_row hb ho2
    exact (hb.ext ((Ext.refl _).alloc _)).kept hg (by simpa [Value.ownBlock] using hn)
  refine ⟨by rw [List.map_append]; exact hown, by simp [h.len], fun i b hb => ?_⟩
  rcases Nat.lt_or_ge i (k + 1) with hi | hi
  · rw [List.getElem?_append_left (by rw [h.len]; exact hi)] at hb
    exact key b _ ((h.sets i b hb).ext hx)
  · have : i = k + 1 := by
      have := (List.getElem?_eq_some_iff.1 hb).1
      rw [List.length_append, h.len, List.length_singleton] at this; omega
    subst this
    rw [List.getElem?_append_right (by rw [h.len]; omega), h.len] at hb
    simp at hb; subst hb
    exact key _ _ hs

/-- The slice out, of which the places from q on are filled. -/
structure OutAt (Ss : List (Int → Prop)) (most : Int) (w : World) (og q : Nat) (outs : List Value) (W : World) : Prop where
  own : W.ownsRow w.heap.size 184 1 (.slice (some ⟨og, 0, none⟩) Ss.length Ss.length) Ss.length outs
  sets : ∀ j, q ≤ j → j < Ss.length → ∃ b, outs[j]? = some (mapV b) ∧ SetAt W b (otherS Ss most j)
theorem setCell_grown (w : World) (og j : Nat) (u : Value) : w.grownBy (w.setCell ⟨og, j, none⟩ u) (some og) :=
  ⟨rfl, rfl, rfl, by simp, fun k _ hk => Below.heap_setCell w ⟨og, j, none⟩ u k (fun e => hk (by simp [e]))⟩
theorem row_cells {W : World} {base : Nat} {e : TypeId} {og n c : Nat} {outs : List Value} (h : W.ownsRow base e 1 (.slice (some ⟨og, 0, none⟩) n c) n outs) : ∃ c e f, W.heap[og]? = some (.cells c e f) := by
  rcases h.2 with ⟨h', _⟩ | ⟨g, cap, cur, h', _, hg, _⟩
  · simp at h'
  · cases h'; exact ⟨_, _, _, hg⟩
theorem out_step {Ss : List (Int → Prop)} {most : Int} {w : World} {og p : Nat} {outs : List Value} {W : World} {b3 : Nat} (h : OutAt Ss most w og (p + 1) outs W) (hs : SetAt W b3 (otherS Ss most p)) (hp : p < Ss.length) :
    OutAt Ss most w og p (outs.set p (mapV b3)) (W.setCell ⟨og, p, none⟩ (mapV b3)) := by
  obtain ⟨h1, h2⟩ := h.own.stored p (mapV b3)
  have hn : ∀ (b : Nat) (S : Int → Prop), SetAt W b S → SetAt (W.setCell ⟨og, p, none⟩ (mapV b3)) b S := fun b S hb => hb.kept h2 (by have := set_ne_row hb h.own; simpa [Value.ownBlock] using this)
  have hlen : outs.length = Ss.length := by have := h.own.1; omega
  refine ⟨h1, fun j hj hjn => ?_⟩
  by_cases e : j = p
  · subst e; exact ⟨b3, by simp [hlen, hjn], hn _ _ hs⟩
  · obtain ⟨b, hb1, hb2⟩ := h.sets j (by omega) hjn
    exact ⟨b, by rw [List.getElem?_set_ne (by omega)]; exact hb1, hn _ _ hb2⟩
theorem OutAt.ext {Ss : List (Int → Prop)} {most : Int} {w : World} {og q : Nat} {outs : List Value} {W W' : World} (h : OutAt Ss most w og q outs W) (hx : Ext W W') : OutAt Ss most w og q outs W' :=
  ⟨owns_ext h.own hx, fun j h1 h2 => by obtain ⟨b, h3, h4⟩ := h.sets j h1 h2; exact ⟨b, h3, h4.ext hx⟩⟩
theorem out_done {Ss : List (Int → Prop)} {most : Int} {w : World} {og : Nat} {outs : List Value} {W : World} (h : OutAt Ss most w og 0 outs W) : ∃ bs : List Nat, bs.length = Ss.length ∧ bs.map mapV = outs ∧ ∀ (i b : Nat), bs[i]? = some b → SetAt W b (otherS Ss most i) := by
  have hlen : outs.length = Ss.length := by have := h.own.1; omega
  have key : ∀ n, n ≤ Ss.length → ∃ bs : List Nat, bs.length = n ∧ bs.map mapV = outs.take n ∧ ∀ (i b : Nat), bs[i]? = some b → SetAt W b (otherS Ss most i) := by
    intro n
    induction n with
    | zero => intro _; exact ⟨[], rfl, by simp, fun i b hb => by simp at hb⟩
    | succ n ih =>
      intro hn
      obtain ⟨bs, h1, h2, h3⟩ := ih (by omega)
      obtain ⟨b, hb1, hb2⟩ := h.sets n (Nat.zero_le _) (by omega)
      refine ⟨bs ++ [b], by simp [h1], by rw [List.map_append, h2, List.take_add_one, hb1]; rfl, fun i b' hb' => ?_⟩
      rcases Nat.lt_or_ge i n with hi | hi
      · rw [List.getElem?_append_left (by omega)] at hb'; exact h3 i b' hb'
      · rw [List.getElem?_append_right (by omega), h1] at hb'
        have : i = n := by
          have := (List.getElem?_eq_some_iff.1 hb').1
          simp at this; omega
        subst this
        simp at hb'; subst hb'; exact hb2
  obtain ⟨bs, h1, h2, h3⟩ := key Ss.length (Nat.le_refl _)
  exact ⟨bs, h1, by rw [h2, List.take_of_length_le (by omega)], h3⟩

set_option maxRecDepth 100000 in
set_option maxHeartbeats 8000000 in
theorem others_any (v : Value) (Ss : List (Int → Prop)) (most : Int) (w : World) (hv : SetsAt w v Ss) (h0 : 0 ≤ most) (h1 : most ≤ 20000) (hn : 1 ≤ Ss.length) (hn4 : Ss.length ≤ 4) :
    Calls Tryz.prog 159 #[v, .int .i64 most] w fun e w' => ∃ (rv : Value) (bs : List Nat), e = .returned rv ∧ Ext w w' ∧ bs.length = Ss.length ∧ w'.ownsRow w.heap.size 184 1 rv Ss.length (bs.map mapV) ∧ ∀ (i b : Nat), bs[i]? = some b → SetAt w' b (otherS Ss most i) := by
  obtain ⟨a, c, rfl, r1, r2, r3⟩ := hv.open
  have hmm := @run_makeMap Tryz.prog
  have hx0 : Ext w (w.alloc (.map #[] 0)) := (Ext.refl w).alloc _
  have hm0 := set_made w
  have R3 := Lib.hid r3
  have tok1 : True := trivial
  clear r3
  go_enter Tryz.func159, Tryz.ntmps159
  go_wp2_with (first | (have _t := tok1; refine wpList_set_insert rfl _ _ _ rfl rfl hm0 rfl rfl (by omega) (by omega) ?_; intro w1 hs1 hg1; clear tok1) | go_in)
  have hx1 : Ext w w1 := hx0.grown hg1 (fun k hk => by cases hk; exact Nat.le_refl _)
  have hB0 : BefAt Ss most w w1.heap.size 1 0 [w.heap.size] (w1.alloc (.cells #[.map (some w.heap.size)] 184)) :=
    ⟨owns_one _ hx1.size, rfl, fun i b hb => by
      cases i with
      | zero => simp at hb; subst hb; exact (hs1.zero).ext ((Ext.refl _).alloc _)
      | succ i => simp at hb⟩
  have hx2 : Ext w (w1.alloc (.cells #[.map (some w.heap.size)] 184)) := hx1.alloc _
  clear hs1 hg1 hm0 _t
  go_loopw [5, 17] (fun bv i wr => ∃ (k g cap : Nat) (bs : List Nat), k ≤ Ss.length ∧ i = .int .i64 k ∧ bv = .slice (some ⟨g, 0, none⟩) (k + 1) cap ∧ BefAt Ss most w g cap k bs wr ∧ Ext w wr) (fun _ i _ => Ss.length - (intOf i).toNat)
  case atStart => exact ⟨0, _, _, _, Nat.zero_le _, rfl, rfl, hB0, hx2⟩
  case round =>
    clear hB0 hx2 hx1
    obtain ⟨k, g, cap, bs, hk, rfl, rfl, hB, hx⟩ := hrel
    by_cases hlt : k < Ss.length
    · obtain ⟨ob, oo, m, rfl, hc, hm⟩ := R3.out k hlt
      have d0 := hx.cell hc
      have hbl := hB.len
      have hbk : bs[k]? = some (bs[k]'(by omega)) := by simp [hbl]
      have d1 := (hB.own.cellAt k (by omega)).trans (show (bs.map mapV)[k]? = some (.map (some (bs[k]'(by omega)))) by simp [mapV, hbl])
      obtain ⟨hcap, hcap2, hcap3⟩ := owns_cap hB.own
      have HW := Lib.hid (with_any (bs[k]'(by omega)) m (befS Ss most k) (setN Ss k) most wr (hB.sets k _ (by simp [hbl])) (hm.ext hx) h0 h1)
      generalize hbb : (bs[k]'(by omega)) = bk at d1 HW
      have hsz5 : k + 1 + 1 ≤ maxLen ∧ (k + 1 + 1) * 8 ≤ 140737488355328 := by unfold maxLen; omega
      have HSZ := Lib.hid hsz5
      have HB := Lib.hid hB
      have hxs := hx.size
      clear hB hm hc hbb hbk hsz5 hbl
      go_wp2_with (first
        | (go_at_call 188; refine HW.out.mono ?_; rintro e w2 ⟨b2, rfl, hb2, hx2, hs2⟩; have hbz := Nat.le_trans hxs hx2.size)
        | (at_builtin; refine wpList_push_at E_sets rfl _ _ rfl w.heap.size rfl (owns_ext HB.out.own hx2) rfl rfl rfl (by simp [Value.oneCell']) ?_ HSZ.out.1 HSZ.out.2 hbz; intro g2 cap2 w4 hown4 hext4 hg4 hloc4)
        | go_in)
      exact ⟨⟨k + 1, g2, cap2, _, by omega, by go_num, rfl, bef_step HB.out hx2 hs2 hown4 hg4, hext4 w (hx.trans hx2) (Nat.le_refl _)⟩, by simp [intOf]; omega⟩
    · have hke : k = Ss.length := by omega
      subst hke
      have hmA := set_made wr
      have tok2 : True := trivial
      obtain ⟨i0, hi, hz0, hz1, hz2⟩ := info_parts info_set
      have HSB := Lib.hid (show i0.bytes * Ss.length ≤ 281474976710656 ∧ Ss.length ≤ maxLen by rw [hz2]; unfold maxLen; omega)
      clear hlt hk
      go_wp2_with (first
        | (have _t := tok2; refine wpList_set_insert rfl _ _ _ rfl rfl hmA rfl rfl (by omega) (by omega) ?_; intro w3 hs3 hg3; clear tok2)
        | (refine wpList_make_full _ rfl _ _ _ rfl w.heap.size _ i0 _ 1 Tryz.underlying182 hi hz0 hz1 .i64 .i64 _ _ Ss.length rfl rfl rfl rfl HSB.out.1 HSB.out.2 (by have h3 := hg3.size; rw [World.size_alloc] at h3; have := hx.size; omega) ?_; intro w5 hown5 hg5)
        | go_in)
      have hx3 : Ext wr w3 := ((Ext.refl wr).alloc _).grown hg3 (fun k hk => by cases hk; exact Nat.le_refl _)
      have hx5 : Ext w3 w5 := (Ext.refl w3).grown hg5 (fun k hk => by cases hk)
      have hB5 := (hB.ext hx3).ext hx5
      have hA5 := (hs3.zero).ext hx5
      have hxw5 := (hx.trans hx3).trans hx5
      have hO5 : OutAt Ss most w w3.heap.size Ss.length (madeCells (Value.map none).cells (Ss.length * 1)).toList w5 := ⟨hown5, fun j h1 h2 => by omega⟩
      have hgo : g ≠ w3.heap.size := by have := (World.ownsRow.lt hB.own g rfl).2; have := hx3.size; omega
      have hog : w.heap.size ≤ w3.heap.size := (hx.trans hx3).size
      generalize w3.heap.size = og at hO5 hgo hog hown5
      obtain ⟨hcap, hcap2, hcap3⟩ := owns_cap hB.own
      clear hB hs3 hg3 hg5 hown5 hx3 hx5 hmA HSB hi hz0 hz1 hz2 hx _t
      go_loopw [9, 11] (fun av i wq => ∃ (q ab : Nat) (outs : List Value), q ≤ Ss.length ∧ i = .int .i64 ((q : Int) - 1) ∧ av = .map (some ab) ∧ SetAt wq ab (aftS Ss most (Ss.length - q)) ∧ OutAt Ss most w og q outs wq ∧ BefAt Ss most w g cap Ss.length bs wq ∧ Ext w wq) (fun _ i _ => ((intOf i) + 1).toNat)
      case atStart => exact ⟨Ss.length, _, _, Nat.le_refl _, rfl, rfl, by rw [Nat.sub_self]; exact hA5, hO5, hB5, hxw5⟩
      case round =>
        clear hA5 hO5 hB5 hxw5
        obtain ⟨q, ab, outs, hq, hi, rfl, hA, hO, hB, hx⟩ := hrel
        cases q with
        | zero =>
          have hi' : u11 = .int .i64 (-1) := by rw [hi]; rfl
          subst hi'
          obtain ⟨rs, hrs1, hrs2, hrs3⟩ := out_done hO
          have hrow := hO.own
          rw [← hrs2] at hrow
          have HFIN := Lib.hid (And.intro hx (And.intro hrs1 (And.intro hrow hrs3)))
          clear hi hA hO hB hx hrs1 hrs2 hrow hrs3
          go_wp2
          go_ret
          exact ⟨_, rs, rfl, HFIN.out.1, HFIN.out.2.1, HFIN.out.2.2.1, HFIN.out.2.2.2⟩
        | succ p =>
          have hi' : u11 = .int .i64 (p : Int) := by rw [hi]; congr 1; omega
          subst hi'
          clear hi
          obtain ⟨ob, oo, m, rfl, hc, hm⟩ := R3.out p (by omega)
          have hbl := hB.len
          have d1 := (hB.own.cellAt p (by omega)).trans (show (bs.map mapV)[p]? = some (.map (some (bs[p]'(by omega)))) by simp [mapV, show p < bs.length by omega])
          have hsb := hB.sets p _ (show bs[p]? = some (bs[p]'(by omega)) by simp [show p < bs.length by omega])
          generalize (bs[p]'(by omega)) = bp at d1 hsb
          have hol : outs.length = Ss.length := by have := hO.own.1; omega
          obtain ⟨ou, hou⟩ : ∃ ou, outs[p]? = some ou := ⟨_, List.getElem?_eq_getElem (by omega)⟩
          have HW1 := Lib.hid (with_any bp ab (befS Ss most p) (aftS Ss most (Ss.length - (p + 1))) most wr hsb hA h0 h1)
          have hstep : ∀ (w6 : World) (b3 : Nat), Ext wr w6 → SetAt w6 b3 (withS (befS Ss most p) (aftS Ss most (Ss.length - (p + 1))) most) →
              OutAt Ss most w og p (outs.set p (mapV b3)) (w6.setCell ⟨og, p, none⟩ (mapV b3)) ∧ BefAt Ss most w g cap Ss.length bs (w6.setCell ⟨og, p, none⟩ (mapV b3)) ∧ Ext w (w6.setCell ⟨og, p, none⟩ (mapV b3)) ∧ SetAt (w6.setCell ⟨og, p, none⟩ (mapV b3)) ab (aftS Ss most (Ss.length - (p + 1))) := fun w6 b3 h6 h3 => by
            have hO6 := hO.ext h6
            have hg6 := setCell_grown w6 og p (mapV b3)
            refine ⟨out_step hO6 (by unfold otherS; rw [show Ss.length - 1 - p = Ss.length - (p + 1) by omega]; exact h3) (by omega), (hB.ext h6).kept hg6 hgo (row_cells hO6.own), (hx.trans h6).grown hg6 (fun k hk => by cases hk; exact hog), (hA.ext h6).kept hg6 (by have := set_ne_row (hA.ext h6) hO6.own; simpa [Value.ownBlock] using this)⟩
          have HSTEP := Lib.hid hstep
          have HW2 := Lib.hid (fun (w6 : World) (b3 : Nat) h6 h3 => with_any ab m (aftS Ss most (Ss.length - (p + 1))) (setN Ss p) most (w6.setCell ⟨og, p, none⟩ (mapV b3)) (hstep w6 b3 h6 h3).2.2.2 (hm.ext (hstep w6 b3 h6 h3).2.2.1) h0 h1)
          have HO := Lib.hid hO
          have HC := Lib.hid hc
          have tok3 : True := trivial
          have hp1 : (p : Int) < (Ss.length : Int) := by omega
          have hp2 : (p : Int) < (Ss.length : Int) + 1 := by omega
          have hp3 : (0 : Int) ≤ (p : Int) := by omega
          clear hO hB hA hm hsb hstep hc hol hbl
          go_wp2_with (first
            | (go_at_call 188; have _t := tok3; clear tok3; refine HW1.out.mono ?_; rintro e w6 ⟨b3, rfl, hb3, hx6, hs6⟩; have z0 := ((owns_ext HO.out.own hx6).cellAt p (by omega)).trans hou; have z1 := (owns_ext HO.out.own hx6).frozenAt p; have hst := HSTEP.out w6 b3 hx6 hs6; have y0 : (w6.setCell ⟨og, p, none⟩ (.map (some b3))).cell? ⟨ob, oo + p, none⟩ = some (.map (some m)) := hst.2.2.1.cell HC.out; have hsm := HW2.out w6 b3 hx6 hs6; have HSM := Lib.hid hsm; have HST := Lib.hid hst; clear hst hsm)
            | (go_at_call 188; refine HSM.out.mono ?_; rintro e w8 ⟨b4, rfl, hb4, hx8, hs8⟩)
            | go_in)
          have hst := HST.out
          refine ⟨⟨p, b4, _, by omega, by go_num, rfl, ?_, hst.1.ext hx8, hst.2.1.ext hx8, hst.2.2.1.trans hx8⟩, by simp [intOf]⟩
          rw [show Ss.length - p = (Ss.length - (p + 1)) + 1 by omega]
          show SetAt w8 b4 (withS (aftS Ss most (Ss.length - (p + 1))) (setN Ss (Ss.length - 1 - (Ss.length - (p + 1)))) most)
          rw [show Ss.length - 1 - (Ss.length - (p + 1)) = p by omega]
          exact hs8
end Go.Proofs.YtjbeiclfggjbmaaGreatDoor
