/- The contracts of isRoads, isStop, loads and length. -/
import Derived.Test.YtapkbonlijhmjaaGreatDoorRoads
namespace Go.Proofs.YtapkbonlijhmjaaGreatDoor
open Go.RowKit

set_option maxRecDepth 100000 in
set_option maxHeartbeats 1000000 in
theorem isRoads_any (v : Value) (c : Roads) (w : World) (hc : RoadsAt w v c) :
    Calls Tryz.prog 50 #[v] w fun e w' => e = .returned (.bool (isRoadsB c)) ∧ Ext w w' := by
  obtain ⟨lv, fv, rfl, hl, hf⟩ := hc
  by_cases h5 : inB c.loads.length 1 5 = true
  · obtain ⟨h51, h52⟩ := inB_iff.1 h5
    have pr : ∀ W, Ext w W → W.cell? ⟨w.heap.size + 1, 0, none⟩ = some (.int .i64 (c.loads.length : Nat)) → PredR W 106 #[.pointer (some ⟨w.heap.size + 1, 0, none⟩)] (badRow c.loads.length) c.far :=
      fun W _ hW xs _ x w1 hx hxs => isRoads2_any x xs _ c.loads.length w1 (by omega) hxs (hx.cell hW)
    have q1 := fun w1 (hx : Ext w w1) => contains_isRoads1 lv c.loads w1 (hl.ext hx)
    have q2 := fun w1 (hx : Ext w w1) hW => containsFuncR fv _ _ _ c.far w1 (hf.ext hx) (pr w1 hx hW) enters_isRoads2
    obtain ⟨a, k, rfl, h1, h2, _⟩ := hl.open
    obtain ⟨a', k', rfl, h1', h2', _⟩ := hf.open
    have Q1 := Lib.hid q1
    have Q2 := Lib.hid q2
    clear q1 q2 pr hl hf
    by_cases e : c.far.length = c.loads.length + 1
    · have t1 : ((c.far.length : Int) == (c.loads.length : Int) + 1) = true := by rw [beq_iff_eq]; omega
      have E := Lib.hid e
      clear e
      go_enter Tryz.func50, Tryz.ntmps50
      go_wp2_with (first | (go_at_call 84; refine (in_any _ _ _ _).mono ?_; rintro e w' ⟨rfl, rfl⟩) | (go_at_call 72; refine (Q1.out _ (((Ext.refl w).alloc _).alloc _)).mono ?_; rintro e w1 ⟨rfl, hx1⟩; obtain ⟨hc1, hf1⟩ := hx1.cells; have hW1 := hx1.cell (a := ⟨w.heap.size + 1, 0, none⟩) (v := .int .i64 (c.loads.length : Nat)) (by simp)) | (go_at_call 70; refine (Q2.out _ (Ext.trans (((Ext.refl w).alloc _).alloc _) hx1) hW1).mono ?_; rintro e w2 ⟨rfl, hx2⟩))
      all_goals go_ret
      all_goals refine ⟨?_, by first | exact (((Ext.refl w).alloc _).alloc _) | exact Ext.trans (((Ext.refl w).alloc _).alloc _) ‹_› | exact Ext.trans (Ext.trans (((Ext.refl w).alloc _).alloc _) hx1) hx2⟩
      all_goals have E' := E.out
      all_goals first | (simp [isRoadsB, *]; done) | (simp [isRoadsB, *]; intros; omega)
    · have t1 : ((c.far.length : Int) == (c.loads.length : Int) + 1) = false := by rw [beq_eq_false_iff_ne]; omega
      have hb : isRoadsB c = false := by simp [isRoadsB, e]
      rw [hb]
      clear e hb
      go_enter Tryz.func50, Tryz.ntmps50
      go_wp2_with (first | (go_at_call 84; refine (in_any _ _ _ _).mono ?_; rintro e w' ⟨rfl, rfl⟩) | (go_at_call 72; refine (Q1.out _ (((Ext.refl w).alloc _).alloc _)).mono ?_; rintro e w1 ⟨rfl, hx1⟩; obtain ⟨hc1, hf1⟩ := hx1.cells; have hW1 := hx1.cell (a := ⟨w.heap.size + 1, 0, none⟩) (v := .int .i64 (c.loads.length : Nat)) (by simp)) | (go_at_call 70; refine (Q2.out _ (Ext.trans (((Ext.refl w).alloc _).alloc _) hx1) hW1).mono ?_; rintro e w2 ⟨rfl, hx2⟩))
      all_goals go_ret
      all_goals refine ⟨?_, by first | exact (((Ext.refl w).alloc _).alloc _) | exact Ext.trans (((Ext.refl w).alloc _).alloc _) ‹_› | exact Ext.trans (Ext.trans (((Ext.refl w).alloc _).alloc _) hx1) hx2⟩
      all_goals first | rfl | (simp [*]; done)
  · have h5' : inB c.loads.length 1 5 = false := by simpa using h5
    have hb : isRoadsB c = false := by simp [isRoadsB, h5']
    rw [hb]
    obtain ⟨a, k, rfl, h1, h2, _⟩ := hl.open
    obtain ⟨a', k', rfl, h1', h2', _⟩ := hf.open
    clear h5 hb hl hf
    go_enter Tryz.func50, Tryz.ntmps50
    go_wp2_with (go_at_call 84; refine (in_any _ _ _ _).mono ?_; rintro e w' ⟨rfl, rfl⟩)
    go_ret
    exact ⟨rfl, ((Ext.refl w).alloc _).alloc _⟩

theorem isStop_any (v : Value) (c : Roads) (n : Int) (w : World) (hc : RoadsAt w v c) :
    Calls Tryz.prog 74 #[v, .int .i64 n] w fun e w' => e = .returned (.bool (isStopB c n)) ∧ Ext w w' := by
  obtain ⟨lv, fv, rfl, hl, _⟩ := hc
  obtain ⟨a, k, rfl, h1, h2, _⟩ := hl.open
  clear hl
  go_enter Tryz.func74, Tryz.ntmps74
  go_wp2_with (go_at_call 84; refine (in_any _ _ _ _).mono ?_; rintro e w' ⟨rfl, rfl⟩)
  go_ret
  exact ⟨rfl, (Ext.refl w).alloc _⟩

/-! ### loads -/
theorem sum_bound {l : List Int} {b : Int} (h : ∀ x, x ∈ l → 0 ≤ x ∧ x ≤ b) : 0 ≤ l.sum ∧ l.sum ≤ l.length * b := by
  induction l with
  | nil => simp
  | cons x l ih =>
    have h1 := h x (by simp)
    have h2 := ih (fun y hy => h y (by simp [hy]))
    simp only [List.sum_cons, List.length_cons]
    push_cast
    rw [Int.add_mul]
    omega
theorem loadAt {c : Roads} (hb : RoadsB c) {m : Nat} (hn : m < c.loads.length) : ∃ x, c.loads[m]? = some x ∧ c.loads.getD ((m : Int) + 1 - 1).toNat 0 = x ∧ 0 ≤ x ∧ x ≤ 1000 := by
  refine ⟨c.loads[m], by simp [hn], ?_, hb.l _ (List.getElem_mem hn)⟩
  rw [show ((m : Int) + 1 - 1).toNat = m from by omega]
  simp [List.getD, hn]

set_option maxRecDepth 100000 in
set_option maxHeartbeats 1000000 in
theorem loads_any (v hv : Value) (c : Roads) (l : List Int) (w : World) (hb : RoadsB c) (hc : RoadsAt w v c) (hl : IntsAt w hv l) (hs : ∀ n, n ∈ l → 1 ≤ n ∧ n ≤ c.loads.length) (hlen : l.length ≤ 1000) :
    Calls Tryz.prog 119 #[v, hv] w fun e w' => e = .returned (.int .i64 (loadOf c l)) ∧ Ext w w' := by
  obtain ⟨lv, fv, rfl, hll, _⟩ := hc
  obtain ⟨a, k0, rfl, h1, h2, h3⟩ := hl.open
  obtain ⟨a', k', rfl, h1', h2', h3'⟩ := hll.open
  have n2 := hb.n2
  have hLA := fun m h => loadAt hb (m := m) h
  clear hl hll hb
  go_enter Tryz.func119, Tryz.ntmps119
  go_wp2
  go_loopw [5, 10] (fun out i wr => ∃ (k : Nat), k ≤ l.length ∧ i = .int .i64 k ∧ wr.ownsRow (w.heap.size + 1) 3 1 out k (((l.take k).map fun n => c.loads.getD (n - 1).toNat 0).map (.int .i64)) ∧ Ext (w.alloc (.cells #[.slice a' c.loads.length k', .int .i64 c.bears, fv] 25)) wr) (fun _ i _ => l.length - (intOf i).toNat)
  case atStart => exact ⟨0, Nat.zero_le _, rfl, World.ownsRow_nil _ _ _ _, Ext.refl _⟩
  case round =>
    obtain ⟨k, hk, rfl, hown, hx⟩ := hrel
    obtain ⟨hcx, hfx⟩ := hx.cells
    have hx0 : Ext w wr := Ext.trans ((Ext.refl w).alloc _) hx
    by_cases hlt : k < l.length
    · obtain ⟨b, o, n, rfl, hnk, hc⟩ := h3 k hlt
      obtain ⟨q1, q2⟩ := hs n (List.mem_of_getElem? hnk.out)
      obtain ⟨m, rfl⟩ : ∃ m : Nat, n = (m : Int) + 1 := ⟨(n - 1).toNat, by omega⟩
      obtain ⟨x, hx1, hx2, hx3, hx4⟩ := hLA m (by omega)
      obtain ⟨b', o', y, rfl, hyk, hc'⟩ := h3' m (by omega)
      have hyx : y = x := by have := hyk.out; rw [hx1] at this; exact (Option.some.inj this).symm
      subst hyx
      have HS : Hid ((l.take (k + 1)).map (fun n => c.loads.getD (n - 1).toNat 0) = (l.take k).map (fun n => c.loads.getD (n - 1).toNat 0) ++ [y]) := by
        unfold Hid; rw [List.take_add_one, hnk.out]; simp only [List.map_append, Option.toList_some, List.map_cons, List.map_nil, hx2]
      have hd := hx0.cell hc
      have hd' := hx0.cell hc'
      clear hc hc' h3 h3' hs hLA hx1 hx2
      go_wp2_with (at_builtin; refine wpList_push E_ints rfl _ _ rfl (w.heap.size + 1) rfl hown rfl rfl (by simp [Value.oneCell']) ?_ ?c1 ?c2 ?c3; intro g cap w2 hown' hext _)
      case c1 => unfold maxLen; omega
      case c2 => omega
      case c3 => have := hx.size; simpa using this
      go_roundw
      case rel => exact ⟨k + 1, by omega, by go_num, by rw [HS.out]; simpa using hown', hext _ hx (by simp)⟩
      case measure => simp [intOf]; omega
    · have hkl : k = l.length := by omega
      have ht : l.take k = l := List.take_of_length_le (by omega)
      rw [ht] at hown
      have hin : IntsAt wr u5 (l.map fun n => c.loads.getD (n - 1).toNat 0) := IntsAt.of_owns (base := w.heap.size + 1) (e := 3) (by rw [List.length_map, ← hkl]; exact hown)
      have hbd : ∀ x, x ∈ (l.map fun n => c.loads.getD (n - 1).toNat 0) → 0 ≤ x ∧ x ≤ 1000 := by
        intro x hx
        obtain ⟨n, hn, rfl⟩ := List.mem_map.1 hx
        obtain ⟨q1, q2⟩ := hs n hn
        obtain ⟨m, rfl⟩ : ∃ m : Nat, n = (m : Int) + 1 := ⟨(n - 1).toNat, by omega⟩
        obtain ⟨x, _, hx2, hx3, hx4⟩ := hLA m (by omega)
        rw [hx2]; exact ⟨hx3, hx4⟩
      have hsum : Calls Tryz.prog 120 #[u5] wr fun e w' => e = .returned (.int .i64 (loadOf c l)) ∧ wr = w' := sum_any u5 _ wr hin (fun j => by
        have h := sum_bound (l := (l.map fun n => c.loads.getD (n - 1).toNat 0).take j) (b := 1000) (fun x hx => hbd x (List.mem_of_mem_take hx))
        have h2 : ((l.map fun n => c.loads.getD (n - 1).toNat 0).take j).length ≤ l.length := by rw [List.length_take, List.length_map]; exact Nat.min_le_right _ _
        have h3 : (((l.map fun n => c.loads.getD (n - 1).toNat 0).take j).length : Int) * 1000 ≤ 1000 * 1000 := by omega
        omega) (fun x hx => by have := hbd x hx; omega)
      have HS := Lib.hid hsum
      clear hsum hbd hin ht hkl hs hLA h3 h3' hown
      go_wp2_with (go_at_call 120; refine HS.out.mono ?_; rintro e w' ⟨rfl, rfl⟩)
      go_ret
      exact ⟨rfl, hx0⟩

theorem farAt {c : Roads} (hb : RoadsB c) {i j : Nat} (hi : i ≤ c.loads.length) (hj : j ≤ c.loads.length) : ∃ l x, c.far[i]? = some l ∧ l[j]? = some x ∧ farOf c i j = x ∧ 0 ≤ x ∧ x ≤ 1000 := by
  have h1 : i < c.far.length := by have := hb.f; omega
  have h2 : j < (c.far[i]).length := by have := hb.fl _ (List.getElem_mem h1); omega
  refine ⟨c.far[i], (c.far[i])[j], by simp [h1], by simp [h2], ?_, hb.fx _ (List.getElem_mem h1) _ (List.getElem_mem h2)⟩
  simp [farOf, List.getD, h1, h2]

/-- The legs of a tour, from at on, without the way home. -/
def legs (c : Roads) : Int → List Int → List Int
  | _, [] => []
  | at_, n :: l => farOf c at_ n :: legs c n l
def lastOf : Int → List Int → Int
  | at_, [] => at_
  | _, n :: l => lastOf n l
theorem legs_snoc (c : Roads) : ∀ (a : Int) (l : List Int) (n : Int), legs c a (l ++ [n]) = legs c a l ++ [farOf c (lastOf a l) n]
  | _, [], _ => rfl
  | _, m :: l, n => by simp [legs, lastOf, legs_snoc c m l n]
theorem lastOf_snoc : ∀ (a : Int) (l : List Int) (n : Int), lastOf a (l ++ [n]) = n
  | _, [], _ => rfl
  | _, m :: l, n => by simp [lastOf, lastOf_snoc m l n]
theorem legs_length (c : Roads) : ∀ (a : Int) (l : List Int), (legs c a l).length = l.length
  | _, [] => rfl
  | _, m :: l => by simp [legs, legs_length c m l]
theorem goOf_legs (c : Roads) : ∀ (a : Int) (l : List Int), goOf c a l = (legs c a l ++ [farOf c (lastOf a l) 0]).sum
  | _, [] => by simp [goOf, legs, lastOf]
  | a, m :: l => by simp [goOf, legs, lastOf, goOf_legs c m l]; 
theorem lastOf_range {c : Roads} : ∀ (a : Int) (l : List Int), (0 ≤ a ∧ a ≤ c.loads.length) → (∀ n, n ∈ l → 1 ≤ n ∧ n ≤ c.loads.length) → 0 ≤ lastOf a l ∧ lastOf a l ≤ c.loads.length
  | a, [], ha, _ => ha
  | a, m :: l, _, h => lastOf_range m l (by have := h m (by simp); omega) (fun n hn => h n (by simp [hn]))
theorem farOf_range {c : Roads} (hb : RoadsB c) {i j : Int} (hi : 0 ≤ i ∧ i ≤ c.loads.length) (hj : 0 ≤ j ∧ j ≤ c.loads.length) : 0 ≤ farOf c i j ∧ farOf c i j ≤ 1000 := by
  obtain ⟨m, rfl⟩ : ∃ m : Nat, i = (m : Int) := ⟨i.toNat, by omega⟩
  obtain ⟨k, rfl⟩ : ∃ k : Nat, j = (k : Int) := ⟨j.toNat, by omega⟩
  obtain ⟨l, x, _, _, h, h'⟩ := farAt hb (i := m) (j := k) (by omega) (by omega)
  rw [h]; exact h'
theorem legs_range {c : Roads} (hb : RoadsB c) : ∀ (a : Int) (l : List Int), (0 ≤ a ∧ a ≤ c.loads.length) → (∀ n, n ∈ l → 1 ≤ n ∧ n ≤ c.loads.length) → ∀ x, x ∈ legs c a l → 0 ≤ x ∧ x ≤ 1000
  | a, [], _, _, x, hx => by simp [legs] at hx
  | a, m :: l, ha, h, x, hx => by
    have hm := h m (by simp)
    simp only [legs, List.mem_cons] at hx
    rcases hx with rfl | hx
    · exact farOf_range hb ha (by omega)
    · exact legs_range hb m l (by omega) (fun n hn => h n (by simp [hn])) x hx

/-- What is given up with: 'heavy'. -/
def heavyV (n : Int) : Value := .iface 156 (.agg #[.int .i64 n])
def LenPost (c : Roads) (l : List Int) (w : World) (e : Ending) (w' : World) : Prop :=
  (if c.bears < loadOf c l then e = .panicked [{ v := heavyV (loadOf c l), recovered := false }] else e = .returned (.int .i64 (lengthOf c l))) ∧ Ext w w'

set_option maxRecDepth 100000 in
set_option maxHeartbeats 2000000 in
theorem length_any (v hv : Value) (c : Roads) (l : List Int) (w : World) (hb : RoadsB c) (hc : RoadsAt w v c) (hl : IntsAt w hv l) (hs : ∀ n, n ∈ l → 1 ≤ n ∧ n ≤ c.loads.length) (hlen : l.length ≤ 1000) :
    Calls Tryz.prog 77 #[v, hv] w (LenPost c l w) := by
  have hld := fun w1 (hx : Ext w w1) => loads_any v hv c l w1 hb (hc.ext hx) (hl.ext hx) hs hlen
  obtain ⟨lv, fv, rfl, hll, hff⟩ := hc
  obtain ⟨a, k0, rfl, h1, h2, h3⟩ := hl.open
  obtain ⟨a', k', rfl, h1', h2', h3'⟩ := hff.open
  have HLD := Lib.hid hld
  clear hld
  by_cases hv : c.bears < loadOf c l
  · have hfin : ∀ w1, Ext w w1 → LenPost c l w (.panicked [{ v := heavyV (loadOf c l), recovered := false }]) w1 := fun w1 hx => ⟨by rw [if_pos hv], hx⟩
    have HF := Lib.hid hfin
    clear hfin hl hll hff h3 h3'
    go_enter Tryz.func77, Tryz.ntmps77
    go_wp2_with (go_at_call 119; refine (HLD.out _ ((Ext.refl w).alloc _)).mono ?_; rintro e w1 ⟨rfl, hx1⟩; obtain ⟨hc1, hf1⟩ := hx1.cells)
    exact ⟨rfl, HF.out _ (Ext.trans ((Ext.refl w).alloc _) hx1)⟩
  · have hfin : ∀ w1 n, n = lengthOf c l → Ext w w1 → LenPost c l w (.returned (.int .i64 n)) w1 := fun w1 n hn hx => ⟨by rw [if_neg hv, hn], hx⟩
    have HF := Lib.hid hfin
    have hv' : loadOf c l ≤ c.bears := by omega
    have n2 := hb.n2
    have HR := Lib.hid (@legs_range c hb)
    have HL := Lib.hid (fun k => @lastOf_range c 0 (l.take k) (by omega) (fun n hn => hs n (List.mem_of_mem_take hn)))
    have HA := Lib.hid (fun i j => @farAt c hb i j)
    clear hfin hv hll hff hl hb
    go_enter Tryz.func77, Tryz.ntmps77
    go_wp2_with (go_at_call 119; refine (HLD.out _ ((Ext.refl w).alloc _)).mono ?_; rintro e w1 ⟨rfl, hx1⟩; obtain ⟨hc1, hf1⟩ := hx1.cells)
    clear HLD hc1 hf1 hv'
    go_loopw [6, 7, 22] (fun out pos i wr => ∃ (k : Nat), k ≤ l.length ∧ i = .int .i64 k ∧ pos = .int .i64 (lastOf 0 (l.take k)) ∧ wr.ownsRow (w.heap.size + 1) 3 1 out k ((legs c 0 (l.take k)).map (.int .i64)) ∧ Ext (w.alloc (.cells #[lv, .int .i64 c.bears, .slice a' c.far.length k'] 25)) wr) (fun _ _ i _ => l.length - (intOf i).toNat)
    case atStart => exact ⟨0, Nat.zero_le _, rfl, rfl, World.ownsRow_nil _ _ _ _, hx1⟩
    case round =>
      obtain ⟨k, hk, rfl, rfl, hown, hx⟩ := hrel
      obtain ⟨hcx, hfx⟩ := hx.cells
      have hx0 : Ext w wr := Ext.trans ((Ext.refl w).alloc _) hx
      obtain ⟨p1, p2⟩ := HL.out k
      obtain ⟨p, hp⟩ : ∃ p : Nat, lastOf 0 (l.take k) = (p : Int) := ⟨(lastOf 0 (l.take k)).toNat, by omega⟩
      have hpl : p ≤ c.loads.length := by omega
      have hff := c.far.length
      by_cases hlt : k < l.length
      · obtain ⟨b, o, n, rfl, hnk, hc⟩ := h3 k hlt
        obtain ⟨q1, q2⟩ := hs n (List.mem_of_getElem? hnk.out)
        obtain ⟨m, rfl⟩ : ∃ m : Nat, n = (m : Int) := ⟨n.toNat, by omega⟩
        obtain ⟨row, x, r1, r2, r3, r4, r5⟩ := HA.out p m hpl (by omega)
        obtain ⟨b', o', y, ys, rfl, hyk, hc', hys⟩ := h3' p (List.getElem?_eq_some_iff.1 r1).1
        have hyr : ys = row := by have := hyk.out; rw [r1] at this; exact (Option.some.inj this).symm
        subst hyr
        obtain ⟨a3, k3, rfl, g1, g2, g3⟩ := hys.open
        have hml : m < ys.length := (List.getElem?_eq_some_iff.1 r2).1
        obtain ⟨b3, o3, z, rfl, hzk, hc3⟩ := g3 m hml
        have hzx : z = x := by have := hzk.out; rw [r2] at this; exact (Option.some.inj this).symm
        subst hzx
        have hpf : p < c.far.length := (List.getElem?_eq_some_iff.1 r1).1
        have HS : Hid (legs c 0 (l.take (k + 1)) = legs c 0 (l.take k) ++ [z] ∧ lastOf 0 (l.take (k + 1)) = (m : Int)) := by
          unfold Hid; rw [List.take_add_one, hnk.out]; simp only [Option.toList_some]; rw [legs_snoc, lastOf_snoc, hp, r3]; exact ⟨rfl, rfl⟩
        have hd := hx0.cell hc
        have hd' := hx0.cell hc'
        have hd3 := hx0.cell hc3
        rw [hp]
        clear hc hc' hc3 h3 h3' hs HA r1 r2 r3 hp g3 hys hyk hzk HF HR HL
        go_wp2_with (at_builtin; refine wpList_push E_ints rfl _ _ rfl (w.heap.size + 1) rfl hown rfl rfl (by simp [Value.oneCell']) ?_ ?c1 ?c2 ?c3; intro g cap w2 hown' hext _)
        case c1 => unfold maxLen; omega
        case c2 => omega
        case c3 => have := hx.size; simpa using this
        go_roundw
        case rel => exact ⟨k + 1, by omega, by go_num, by rw [HS.out.2], by rw [HS.out.1]; simpa using hown', hext _ hx (by simp)⟩
        case measure => simp [intOf]; omega
      · have hkl : k = l.length := by omega
        have ht : l.take k = l := List.take_of_length_le (by omega)
        rw [ht] at hown hp
        obtain ⟨row, x, r1, r2, r3, r4, r5⟩ := HA.out p 0 hpl (by omega)
        obtain ⟨b', o', y, ys, rfl, hyk, hc', hys⟩ := h3' p (List.getElem?_eq_some_iff.1 r1).1
        have hyr : ys = row := by have := hyk.out; rw [r1] at this; exact (Option.some.inj this).symm
        subst hyr
        obtain ⟨a3, k3, rfl, g1, g2, g3⟩ := hys.open
        have hml : 0 < ys.length := (List.getElem?_eq_some_iff.1 r2).1
        obtain ⟨b3, o3, z, rfl, hzk, hc3⟩ := g3 0 hml
        have hzx : z = x := by have := hzk.out; rw [r2] at this; exact (Option.some.inj this).symm
        subst hzx
        have hpf : p < c.far.length := (List.getElem?_eq_some_iff.1 r1).1
        have hsum : (legs c 0 l ++ [z]).sum = lengthOf c l := by rw [lengthOf, goOf_legs, hp, ← r3]; rfl
        have hbd : ∀ x, x ∈ (legs c 0 l ++ [z]) → 0 ≤ x ∧ x ≤ 1000 := by
          intro x hx
          rcases List.mem_append.1 hx with hx | hx
          · exact HR.out 0 l (by omega) hs x hx
          · simp at hx; subst hx; exact ⟨r4, r5⟩
        have hcall : ∀ v2 w2, IntsAt w2 v2 (legs c 0 l ++ [z]) → Calls Tryz.prog 120 #[v2] w2 fun e w' => e = .returned (.int .i64 (lengthOf c l)) ∧ w2 = w' := fun v2 w2 hin => by
          have := sum_any v2 _ w2 hin (fun j => by
            have h := sum_bound (l := (legs c 0 l ++ [z]).take j) (b := 1000) (fun x hx => hbd x (List.mem_of_mem_take hx))
            have h2 : ((legs c 0 l ++ [z]).take j).length ≤ l.length + 1 := by rw [List.length_take]; have := legs_length c 0 l; simp; omega
            omega) (fun x hx => by have := hbd x hx; omega)
          rw [hsum] at this; exact this
        have HC := Lib.hid hcall
        have hLL := legs_length c 0 l
        have hd' := hx0.cell hc'
        have hd3 := hx0.cell hc3
        rw [Nat.add_zero] at hd3
        rw [ht, hp]
        rw [hkl] at hown
        obtain ⟨L, hL⟩ : ∃ L, legs c 0 l = L := ⟨_, rfl⟩
        rw [hL] at hown HC hLL
        clear hc' hc3 h3 h3' hs HA r1 r2 r3 hp g3 hys hyk hzk HR HL hcall hbd hsum hL ht hkl
        go_wp2_with (first | (at_builtin; refine wpList_push E_ints rfl _ _ rfl (w.heap.size + 1) rfl hown rfl rfl (by simp [Value.oneCell']) ?_ ?c1 ?c2 ?c3; intro g cap w2 hown' hext _) | (go_at_call 120; refine (HC.out _ _ (IntsAt.of_owns (base := w.heap.size + 1) (e := 3) (by simpa [hLL] using hown'))).mono ?_; rintro e w3 ⟨rfl, rfl⟩))
        case c1 => unfold maxLen; omega
        case c2 => omega
        case c3 => have := hx.size; simpa using this
        go_ret
        exact HF.out _ _ rfl (hext _ hx0 (by omega))
end Go.Proofs.YtapkbonlijhmjaaGreatDoor
