/- CardEnds: the law's small functions; what Known tells lies by itself; a push of several. -/
import Derived.Test.YtbeophjdiddomaaGreatDoorEndsp
import Derived.Test.YtbeophjdiddomaaGreatDoorSearchr
import Derived.Test.YtbeophjdiddomaaGreatDoorRunsb
namespace Go.Proofs.YtbeophjdiddomaaGreatDoor
open Go.RowKit

set_option maxRecDepth 100000 in
set_option maxHeartbeats 2000000 in
/-- As known_any, where a round agrees; and the row is the call's own. -/
theorem known_new (v : Value) (r : Round) (w : World) (hr : RoundAt w v r) (hb : isRoundB r = true) (ha : agreeB r (-1) = true) :
    Calls Tryz.prog 12 #[v] w fun e w' => ∃ v1, e = .returned (.tuple #[v1, .int .i64 0]) ∧ Ext w w' ∧ w'.ownsRow w.heap.size 23 2 v1 r.houses.length ((knownL r).flatMap spanCells) := by
  obtain ⟨hv, rfl, hh⟩ := hr
  have hr' : RoundAt w (.agg (r.cells hv).toArray) r := ⟨hv, rfl, hh⟩
  have HA := Lib.hid (fun w1 (hx : Ext w w1) => asked_any _ r true w1 (hr'.ext hx))
  obtain ⟨a, c, rfl, _⟩ := hh.open
  unfold Round.cells at *
  clear hr' hh
  have hx0 : Ext w (w.alloc (.cells #[.int .i64 r.per, .int .i64 r.lo, .int .i64 r.hi, .int .i64 r.card, .int .i64 r.slack, .slice a r.houses.length c, .int .i64 r.all, .int .i64 r.off] 26)) := (Ext.refl w).alloc _
  have hB := roundB_of hb
  have hyes := (agreeB_iff hB).1 ha
  have HB := Lib.hid hb
  have HAG := Lib.hid ha
  have h4 := hB.h2
  clear hb ha
  go_enter Tryz.func12, Tryz.ntmps12
  go_wp2_with (go_at_call 42; refine (HA.out _ hx0).mono ?_; rintro e w1 ⟨v1, err, rfl, hx1, hq⟩; rw [if_pos ⟨HB.out, rfl⟩] at hq; obtain ⟨rfl, lss, hl1, hf1, hc1⟩ := hq.1 hyes; clear hq; obtain ⟨fb, a0, a1, c0, c1, xs, ys, rfl, q0, q1, q2, q3, q4⟩ := hf1.open hl1)
  have hxw := hx0.trans hx1
  have hxw2 := hxw.alloc (.cells #[.slice (some ⟨fb, 0, none⟩) r.houses.length r.houses.length, .slice a0 xs.length c0, .slice a1 ys.length c1] 82)
  have hxa := (Ext.refl w1).alloc (.cells #[.slice (some ⟨fb, 0, none⟩) r.houses.length r.houses.length, .slice a0 xs.length c0, .slice a1 ys.length c1] 82)
  have Q4 := Lib.hid q4
  have HL := Lib.hid hl1
  clear q0 q1 q2 q3 q4 hf1 hl1
  go_loopw [6, 20] (fun out i wr => ∃ k : Nat, k ≤ r.houses.length ∧ i = .int .i64 k ∧ wr.ownsRow w1.heap.size 23 2 out k (((knownL r).take k).flatMap spanCells) ∧ Ext w wr ∧ Ext w1 wr) (fun _ i _ => r.houses.length - (intOf i).toNat)
  case atStart => exact ⟨0, Nat.zero_le _, rfl, World.ownsRow_nil _ _ _ _, hxw2, hxa⟩
  case round =>
    clear hxw2 hxa
    obtain ⟨k, hk, rfl, hown, hx, hx1'⟩ := hrel
    by_cases hlt : k < r.houses.length
    · obtain ⟨u, zs, hcu, hzs, hzi⟩ := Q4.out k hlt
      obtain ⟨x, l, rfl, hsp⟩ := FoundAt.house hB HAG.out HL.out hc1 hlt hzs
      have hkn := flat_succ spanCells (knownL_at r hlt)
      rw [← hsp, ← minmax_span] at hkn
      have HKN := Lib.hid hkn
      have hcu' := hx1'.cell hcu
      have HS := Lib.hid (span_any u x l wr (hzi.ext hx1'))
      obtain ⟨ua, uc, rfl, _⟩ := hzi.open
      have x2 : decide ((k : Int) < (r.houses.length : Int)) = true := by simpa using hlt
      have hsz : k + 1 ≤ maxLen ∧ (k + 1) * 16 ≤ 140737488355328 := by unfold maxLen; omega
      have HSZ := Lib.hid hsz
      have hxs := hx1'.size
      have hxw1 := hxw.size
      clear hkn hcu hzs hsz hzi hsp
      go_wp2_with (first
        | (go_at_call 43; refine HS.out.mono ?_; rintro e w2 ⟨rfl, hx2⟩; have hbz := Nat.le_trans hxs hx2.size)
        | (at_builtin; refine wpList_push E_spans rfl _ _ rfl w1.heap.size rfl (owns_ext hown hx2) rfl rfl (by simp [Value.oneCell']) ?_ HSZ.out.1 HSZ.out.2 hbz; intro g cap w3 hown' hext _))
      go_roundw
      case rel => exact ⟨k + 1, by omega, by go_num, by rw [HKN.out]; exact hown', hext _ (hx.trans hx2) hxw1, hext _ (hx1'.trans hx2) (Nat.le_refl _)⟩
      case measure => simp [intOf]; omega
    · have hke : k = r.houses.length := by omega
      have x2 : decide ((k : Int) < (r.houses.length : Int)) = false := by simp; omega
      have hs : Hid (wr.ownsRow w.heap.size 23 2 u6 r.houses.length ((knownL r).flatMap spanCells)) := by
        unfold Hid
        have h9 := owns_low hown (show w.heap.size ≤ w1.heap.size by have := hxw.size; omega)
        rw [List.take_of_length_le (by rw [knownL_length]; omega), hke] at h9
        exact h9
      clear hke hown
      go_wp2
      go_ret2
      exact ⟨_, rfl, hx, hs.out⟩
theorem ecounts_any (said miss most : Int) (w : World) (h0 : 0 ≤ said ∧ said ≤ 60) (h1 : 0 ≤ miss ∧ miss ≤ 3) : Calls Tryz.prog 10 #[.int .i64 said, .int .i64 miss, .int .i64 most] w fun e w' => e = .returned (.agg #[.int .i64 (cntS said miss most).1, .int .i64 (cntS said miss most).2]) ∧ Ext w w' := by
  have E1 : IntKind.i64.wrap (said - miss) = said - miss := IntWalk.i64_in _ (by omega)
  have E2 : IntKind.i64.wrap (said + miss) = said + miss := IntWalk.i64_in _ (by omega)
  unfold cntS
  go_enter Tryz.func10, Tryz.ntmps10
  go_wp2_with (go_at_call 36; refine (lspan_any _ _ _).mono ?_; rintro e w1 ⟨rfl, hx1⟩; have hbx := Lib.hid ((hx1.block (by simp)).trans (World.alloc_heap_new w (.cells #[.int .i64 0, .int .i64 0] 23))); obtain ⟨⟨f0, f1⟩, ⟨g0, g1⟩, k1, k2⟩ := box2 hbx.out (.int .i64 (max 0 (said - miss))))
  refine bodyPost_ret (results_cell_row rfl _ _ w.heap.size _ _ _ _ rfl (box2_end hbx.out _ _) Tryz.underlying23 rfl (by kernel_rfl)) rfl ?_
  exact ⟨rfl, ((((Ext.refl w).alloc _).trans hx1).setCell (p := ⟨w.heap.size, 0, none⟩) (Nat.le_refl _) _).setCell (p := ⟨w.heap.size, 1, none⟩) (Nat.le_refl _) _⟩
abbrev spV (p : Int × Int) : Value := .agg #[.int .i64 p.1, .int .i64 p.2]
theorem ewider_any (p : Int × Int) (n : Int) (met : Bool) (w : World) : Calls Tryz.prog 16 #[spV p, .int .i64 n, .bool met] w fun e w' => e = .returned (spV (widerP p n met)) ∧ Ext w w' := by
  obtain ⟨p1, p2⟩ := p
  cases met with
  | true =>
    have hw : widerP (p1, p2) n true = (min p1 n, max p2 n) := rfl
    rw [hw]
    go_enter Tryz.func16, Tryz.ntmps16
    go_wp2_with (go_at_call 36; refine (lspan_any _ _ _).mono ?_; rintro e w1 ⟨rfl, hx1⟩; have hbx := Lib.hid ((hx1.block (by simp)).trans (two_new w (.cells #[.int .i64 p1, .int .i64 p2] 23) (.cells #[.int .i64 0, .int .i64 0] 23)).2); obtain ⟨⟨f0, f1⟩, ⟨g0, g1⟩, k1, k2⟩ := box2 hbx.out (.int .i64 (min p1 n)))
    refine bodyPost_ret (results_cell_row rfl _ _ (w.heap.size + 1) _ _ _ _ rfl (box2_end hbx.out _ _) Tryz.underlying23 rfl (by kernel_rfl)) rfl ?_
    exact ⟨rfl, (((((Ext.refl w).alloc _).alloc _).trans hx1).setCell (p := ⟨w.heap.size + 1, 0, none⟩) (Nat.le_succ _) _).setCell (p := ⟨w.heap.size + 1, 1, none⟩) (Nat.le_succ _) _⟩
  | false =>
    have hw : widerP (p1, p2) n false = (n, n) := rfl
    rw [hw]
    go_enter Tryz.func16, Tryz.ntmps16
    go_wp2_with (go_at_call 36; refine (lspan_any _ _ _).mono ?_; rintro e w1 ⟨rfl, hx1⟩; have hbx := Lib.hid ((hx1.block (by simp)).trans (two_new w (.cells #[.int .i64 p1, .int .i64 p2] 23) (.cells #[.int .i64 0, .int .i64 0] 23)).2); obtain ⟨⟨f0, f1⟩, ⟨g0, g1⟩, k1, k2⟩ := box2 hbx.out (.int .i64 n))
    refine bodyPost_ret (results_cell_row rfl _ _ (w.heap.size + 1) _ _ _ _ rfl (box2_end hbx.out _ _) Tryz.underlying23 rfl (by kernel_rfl)) rfl ?_
    exact ⟨rfl, (((((Ext.refl w).alloc _).alloc _).trans hx1).setCell (p := ⟨w.heap.size + 1, 0, none⟩) (Nat.le_succ _) _).setCell (p := ⟨w.heap.size + 1, 1, none⟩) (Nat.le_succ _) _⟩
/-- A push of several elements, in a region that draws its order. -/
theorem step_push_n {P : Program} {w : World} {t e size bytes : Nat} {z : Value} (E : Elem P t e size bytes z) {ops : Array Oper} {o : Oper} {a : Act} {K : Act → World → Prop} {Q : Exit → Act → World → Prop} {E' : Prop} (hw : Region.wanted o (yielded ops a.tmps) = true) (s x : Operand)
    (hop : o.op = Op.call { callee := Callee.builtin Builtin.append, args := #[s, x], argTypes := #[t, t] }) (base : Nat) {v : Value} {k q : Nat} {xs : List Value} (hs : a.eval s = v) (hown : w.ownsRow base e size v k xs)
    {cs : Array Value} {e' : TypeId} {m : Nat} (hx : a.eval x = .slice (some ⟨m, 0, none⟩) (q + 1) (q + 1)) (hm : m = w.heap.size) (hl : cs.size = (q + 1) * size) (hq : q + 1 ≤ maxLen) (h1 : ∀ u ∈ cs.toList, u.oneCell' = true)
    (hK : ∀ g cap w', w'.ownsRow base e size (.slice (some ⟨g, 0, none⟩) (k + q + 1) cap) (k + q + 1) (xs ++ cs.toList) → (w.alloc (.cells cs e')).grownBy w' v.ownBlock → (v.ownBlock = some g ∨ g = w.heap.size + 1) → K (a.put o.dst (.slice (some ⟨g, 0, none⟩) (k + q + 1) cap)) w') (b1 : k + q + 1 ≤ maxLen) (b2 : (k + q + 1) * bytes ≤ 140737488355328) (b3 : base ≤ w.heap.size) :
    if Region.wanted o (yielded ops a.tmps) = true then Oper.wp P o a (w.alloc (.cells cs e')) K Q else E' := by
  rw [if_pos hw]
  subst hm
  obtain ⟨i, hi, hz, hsz, hb⟩ := E.info
  obtain ⟨v', w', hrun, ho, hgr, _, hloc⟩ := run_append_own_at (P := P) (w.alloc (.cells cs e')) base t o.type e i z size bytes E.slice hi hz hsz hb E.zero E.pos v k xs (hown.alloc _) ⟨w.heap.size, 0, none⟩ (q + 1) (q + 1) cs.toList (by simp [hl]) (by
    intro j u hj
    obtain ⟨a1, c, hv, _, _, _, h3⟩ := RowAt.new w cs e' (q + 1) (q + 1) (Nat.le_refl _) hq
    cases hv
    obtain ⟨b, o1, ha, hc⟩ := h3 j u hj
    cases ha
    rcases Nat.eq_zero_or_pos j with rfl | h0
    · simpa [Addr.add] using hc
    · simpa [Addr.add, Nat.ne_of_gt h0] using hc) h1 (by omega) (by rw [← Nat.add_assoc]; exact b2) (by simp; omega)
  rw [← Nat.add_assoc] at ho
  obtain ⟨g, cap, rfl⟩ := owns_succ ho
  unfold Oper.wp
  simp [execOp, hop, resolve, invoke, builtin, hs, hx, hrun, Result.andThen]
  refine hK g cap w' ho hgr ?_
  rcases hloc with h | h
  · exact .inl (h ▸ rfl)
  · right; have : some g = some (w.alloc (.cells cs e')).heap.size := h
    simpa using this
end Go.Proofs.YtbeophjdiddomaaGreatDoor
