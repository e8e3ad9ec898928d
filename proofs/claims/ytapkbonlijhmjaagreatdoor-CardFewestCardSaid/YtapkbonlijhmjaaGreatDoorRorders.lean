/- The reference's orders. -/
import Derived.Test.YtapkbonlijhmjaaGreatDoorRroadsc
import Derived.Test.YtapkbonlijhmjaaGreatDoorLists
import Derived.Test.YtapkbonlijhmjaaGreatDoorRoadsb
namespace Go.Proofs.YtapkbonlijhmjaaGreatDoor
open Go.RowKit

def facN : Nat → Nat
  | 0 => 1
  | n + 1 => (n + 1) * facN n
theorem length_flat_const {α β : Type} {n : Nat} : ∀ (l : List α) (g : α → List β), (∀ x, x ∈ l → (g x).length = n) → (l.flatMap g).length = l.length * n
  | [], _, _ => by simp
  | x :: l, g, h => by
    rw [List.flatMap_cons, List.length_append, h x (by simp), length_flat_const l g (fun y hy => h y (by simp [hy])), List.length_cons, Nat.succ_mul]
    omega
theorem refO_len : ∀ (f : Nat) (l : List Int), l.length = f → (refO f l).length = facN f
  | 0, _, _ => rfl
  | f + 1, l, h => by
    unfold refO facN
    rw [length_flat_const (n := facN f)]
    · rw [List.length_range, h]
    · intro i hi
      rw [List.length_map]
      exact refO_len f _ (by rw [List.length_eraseIdx_of_lt (List.mem_range.1 hi), h]; rfl)
theorem refO_mem_len : ∀ (f : Nat) (l : List Int), l.length = f → ∀ xs, xs ∈ refO f l → xs.length = f
  | 0, _, _, xs, h => by simp [refO] at h; subst h; rfl
  | f + 1, l, hl, xs, h => by
    unfold refO at h
    obtain ⟨i, hi, h⟩ := List.mem_flatMap.1 h
    obtain ⟨ys, hy, rfl⟩ := List.mem_map.1 h
    rw [List.length_cons, refO_mem_len f _ (by rw [List.length_eraseIdx_of_lt (List.mem_range.1 hi), hl]; rfl) ys hy]
theorem facN_le {f : Nat} (h : f ≤ 5) : facN f ≤ 120 := by
  rcases (show f = 0 ∨ f = 1 ∨ f = 2 ∨ f = 3 ∨ f = 4 ∨ f = 5 by omega) with rfl | rfl | rfl | rfl | rfl | rfl <;> decide
/-- The orders that begin with one of the first i numbers. -/
def ordUp (f : Nat) (l : List Int) (i : Nat) : List (List Int) := (List.range i).flatMap fun j => (refO f (l.eraseIdx j)).map (l.getD j 0 :: ·)
theorem ordUp_succ (f : Nat) (l : List Int) (i : Nat) : ordUp f l (i + 1) = ordUp f l i ++ (refO f (l.eraseIdx i)).map (l.getD i 0 :: ·) := by
  unfold ordUp; rw [List.range_succ, List.flatMap_append]; simp
theorem ordUp_all (f : Nat) (l : List Int) : ordUp f l l.length = refO (f + 1) l := rfl
theorem ordUp_len {f : Nat} {l : List Int} (h : l.length = f + 1) {i : Nat} (hi : i ≤ l.length) : (ordUp f l i).length = i * facN f := by
  unfold ordUp
  rw [length_flat_const (n := facN f)]
  · rw [List.length_range]
  · intro j hj
    rw [List.length_map]
    exact refO_len f _ (by rw [List.length_eraseIdx_of_lt (by have := List.mem_range.1 hj; omega), h]; rfl)
/-- What there is while the i-th number is in front, k of its orders done. -/
def ordMid (f : Nat) (l : List Int) (i k : Nat) : List (List Int) := ordUp f l i ++ ((refO f (l.eraseIdx i)).take k).map (l.getD i 0 :: ·)
theorem ordMid_succ {f : Nat} {l : List Int} {i k : Nat} {xs : List Int} (h : (refO f (l.eraseIdx i))[k]? = some xs) : ordMid f l i (k + 1) = ordMid f l i k ++ [l.getD i 0 :: xs] := by
  unfold ordMid
  rw [List.take_add_one, h]
  simp
theorem ordMid_len {f : Nat} {l : List Int} (hf : f ≤ 4) (h : l.length = f + 1) {i k : Nat} (hi : i < l.length) (hk : k ≤ (refO f (l.eraseIdx i)).length) : (ordMid f l i k).length ≤ 120 := by
  have h1 : (refO f (l.eraseIdx i)).length = facN f := refO_len f _ (by rw [List.length_eraseIdx_of_lt hi, h]; rfl)
  unfold ordMid
  rw [List.length_append, ordUp_len h (Nat.le_of_lt hi), List.length_map, List.length_take]
  have h2 : (i + 1) * facN f ≤ (f + 1) * facN f := Nat.mul_le_mul_right _ (by omega)
  have h3 : (f + 1) * facN f ≤ 120 := facN_le (f := f + 1) (by omega)
  rw [Nat.succ_mul] at h2
  omega
theorem erase_parts (l : List Int) (i : Nat) : l.eraseIdx i = l.take i ++ l.drop (i + 1) := List.eraseIdx_eq_take_drop_succ l i
/-- The blocks from A on, below B, are in W as they were. -/
def Mid (A B : Nat) (V W : World) : Prop := ∀ b, A ≤ b → b < B → W.heap[b]? = V.heap[b]?
theorem Mid.refl (A B : Nat) (V : World) : Mid A B V V := fun _ _ _ => rfl
theorem Mid.ext {A B : Nat} {V W W' : World} (h : Mid A B V W) (hB : B ≤ W.heap.size) (k : Ext W W') : Mid A B V W' := fun b h1 h2 => (k.block (by omega)).trans (h b h1 h2)
theorem Mid.grown {A B : Nat} {V W W' : World} {row : Option Nat} (h : Mid A B V W) (hB : B ≤ W.heap.size) (hg : W.grownBy W' row) (hr : ∀ g, row = some g → g < A ∨ B ≤ g) : Mid A B V W' := fun b h1 h2 =>
  (hg.block b (by omega) (fun e => by have := hr b e.symm; omega)).trans (h b h1 h2)
theorem owns_mid {A : Nat} {V W : World} {e : TypeId} {size : Nat} {v : Value} {n : Nat} {xs : List Value} (h : V.ownsRow A e size v n xs) (k : Mid A V.heap.size V W) : W.ownsRow A e size v n xs := by
  obtain ⟨h1, ⟨rfl, rfl⟩ | ⟨g, cap, cur, hv, hg1, hh, r⟩⟩ := h
  · exact ⟨h1, .inl ⟨rfl, rfl⟩⟩
  · exact ⟨h1, .inr ⟨g, cap, cur, hv, hg1, (k g hg1 (Array.getElem?_eq_some_iff.1 hh).1).trans hh, r⟩⟩
theorem ListsOwn.mid {A : Nat} {V W : World} {v : Value} {xss : List (List Int)} (h : ListsOwn V A v xss) (k : Mid A V.heap.size V W) : ListsOwn W A v xss := by
  obtain ⟨vals, h1, h2, h3⟩ := h
  exact ⟨vals, h1, owns_mid h2 k, fun i u xs hu hx => owns_mid (h3 i u xs hu hx) k⟩
theorem erase_owns {W : World} {base i : Nat} {v : Value} {l : List Int} (h : W.ownsRow base 3 1 v ((l.take i).length + (l.length - (i + 1))) ((l.take i).map (.int .i64) ++ (l.drop (i + 1)).map (.int .i64))) : IntsAt W v (l.eraseIdx i) := by
  rw [← List.map_append, ← erase_parts] at h
  have hlen : (l.take i).length + (l.length - (i + 1)) = (l.eraseIdx i).length := by rw [erase_parts, List.length_append, List.length_drop]
  rw [hlen] at h
  exact IntsAt.of_owns h
theorem front_owns {W : World} {base base' : Nat} {v : Value} {x : Int} {row : List Int} (hb : base' ≤ base) (h : W.ownsRow base 3 1 v (1 + row.length) ([.int .i64 x] ++ row.map (.int .i64))) : W.ownsRow base' 3 1 v (x :: row).length ((x :: row).map (.int .i64)) := by
  have h2 := owns_lower h hb
  rw [Nat.add_comm] at h2
  exact h2
set_option maxRecDepth 100000 in
set_option maxHeartbeats 8000000 in
theorem rorders_any : ∀ (f : Nat) (l : List Int) (hv : Value) (w : World), l.length = f → f ≤ 5 → IntsAt w hv l →
    Calls Tryz.prog 113 #[hv] w fun e w' => ∃ v1, e = .returned v1 ∧ Ext w w' ∧ ListsOwn w' w.heap.size v1 (refO f l) := by
  intro f
  induction f with
  | zero =>
    intro l hv w hlen _ hl
    obtain ⟨a, c, rfl, h1, h2, _⟩ := hl.open
    rw [hlen]
    clear hl h1
    go_enter Tryz.func113, Tryz.ntmps113
    go_wp2
    go_ret
    exact ⟨_, rfl, (Ext.refl w).alloc _, [.slice none 0 0], rfl, World.ownsRow_lit w #[.slice none 0 0] 1 (Nat.le_refl _) one_le_maxLen rfl, fun i u xs hu hx => by
      cases i with
      | zero => simp [refO] at hu hx; subst hu; subst hx; exact World.ownsRow_nil _ _ _ _
      | succ i => simp at hu⟩
  | succ f ih =>
    intro l hv w hlen hf hl
    have HIH := Lib.hid ih
    have HLI := Lib.hid hl
    obtain ⟨a, c, rfl, h1, h2, h3⟩ := hl.open
    obtain ⟨m, hm⟩ : ∃ m, l.length = m := ⟨_, rfl⟩
    have HLEN := Lib.hid hlen
    have hm1 : m = f + 1 := by omega
    have hne : ((l.length : Int) == 0) = false := by rw [beq_eq_false_iff_ne]; omega
    have hne2 : (l.length == 0) = false := by rw [beq_eq_false_iff_ne]; omega
    have H3 := Lib.hid h3
    have hmix : Tryz.prog.follows .mixedOrders = true := by kernel_rfl
    clear h3 hl hlen ih hm hm1
    go_enter Tryz.func113, Tryz.ntmps113
    go_wp2
    clear hne hne2
    go_loopw [3, 4] (fun out i wr => ∃ k : Nat, k ≤ l.length ∧ i = .int .i64 k ∧ ListsOwn wr w.heap.size out (ordUp f l k) ∧ Ext w wr) (fun _ i _ => l.length - (intOf i).toNat)
    case atStart => exact ⟨0, Nat.zero_le _, rfl, ListsOwn.nil _ _, Ext.refl _⟩
    case round =>
      obtain ⟨i, hi, rfl, hL, hx⟩ := hrel
      by_cases hlt : i < l.length
      · obtain ⟨b, o, x, rfl, hxi, hci⟩ := H3.out i hlt
        have d := hx.cell hci
        have hgx : l.getD i 0 = x := by rw [List.getD_eq_getElem?_getD, hxi.out]; rfl
        have HGX := Lib.hid hgx
        have HPRE := Lib.hid (fun W (h : Ext wr W) => ints_prefix ((HLI.out.ext hx).ext h) (Nat.le_of_lt hlt))
        have HSUF := Lib.hid (fun W A hA (h : Ext wr W) => suffix_row (c := c) (j := i) A hA ((HLI.out.ext hx).ext h) hlt)
        have hs1 : 0 + (l.take i).length ≤ maxLen ∧ (0 + (l.take i).length) * 8 ≤ 140737488355328 := by
          have := HLEN.out; simp; unfold maxLen; omega
        have HS1 := Lib.hid hs1
        have hs2 : (l.take i).length + (l.length - (i + 1)) ≤ maxLen ∧ ((l.take i).length + (l.length - (i + 1))) * 8 ≤ 140737488355328 := by
          have := HLEN.out; simp; unfold maxLen; omega
        have HS2 := Lib.hid hs2
        have HLT := Lib.hid hL
        have HMR : Hid (wr.heap.size ≤ wr.heap.size) := Nat.le_refl _
        have x1 : decide ((i : Int) < (l.length : Int)) = true := by simpa using hlt
        have b1 : (i : Int) < (l.length : Int) := by omega
        have b2 : (i : Int) ≤ (c : Int) := by omega
        have b3 : (0 : Int) ≤ (i : Int) := by omega
        have b4 : (i : Int) + 1 ≤ (l.length : Int) := by omega
        have b6 : (0 : Int) ≤ (i : Int) + 1 := by omega
        have E1 : IntKind.i64.wrap ((i : Int) + 1) = (i : Int) + 1 := IntWalk.i64_in _ (by omega)
        have HCI := Lib.hid hci
        clear hs1 hs2 hgx hci hL
        go_upto_region 7 with fail
        go_region_held3 (fun _ => True) (trivial)
          (first
            | (refine step_append_row E_ints (by rfl) _ _ (by rfl) wr.heap.size (by rfl) (World.ownsRow_nil _ _ _ _) (by rfl) (HPRE.out _ ((Ext.refl wr).drew)) (by simp) (ints_one _) HS1.out.1 HS1.out.2 (Nat.le_refl _) ?_; intro v1 w3 hown1 hgr1 _
               have hx31 := (Ext.refl _).grown hgr1 (fun g hg => by cases hg)
               have hxa : Ext wr w3 := Ext.trans ((Ext.refl wr).drew) hx31
               simp only [Nat.zero_add, List.nil_append] at hown1
               have HOWN1 := Lib.hid hown1
               clear hown1 hgr1)
            | (refine step_append_row E_ints (by rfl) _ _ (by rfl) wr.heap.size (by rfl) HOWN1.out (by rfl) (HSUF.out _ _ rfl hxa) (by simp) (ints_one _) HS2.out.1 HS2.out.2 hxa.size ?_; intro v2 w4 hown2 hgr2 _
               have hx4 : Ext wr w4 := hxa.grown hgr2 (fun g hg => owns_block HOWN1.out g hg)
               have HOWN2 := Lib.hid hown2
               clear hown2 hgr2))
        have HRE := Lib.hid (erase_owns HOWN2.out)
        have HEL : Hid ((l.eraseIdx i).length = f) := by unfold Hid; rw [List.length_eraseIdx_of_lt hlt, HLEN.out]; rfl
        have hxw := hx.trans hx4
        have hzr := hx.size
        have hz4 := hx4.size
        clear x1 b1 b2 b3 b4 b6 E1 HPRE HSUF HS1 HS2 hx31 hxa HOWN1 HOWN2
        generalize (if c = i + 1 then some (⟨b, o, none⟩ : Addr) else some ⟨b, o + (i + 1), none⟩) = Aif
        go_wp2_with (go_at_call 113; refine (HIH.out (l.eraseIdx i) v2 w4 HEL.out (by omega) HRE.out).mono ?_; rintro e w5 ⟨v6, rfl, hx5, hl6⟩; have HL6 := Lib.hid hl6; obtain ⟨ra, rc, hv6, _⟩ := hl6.rows.open; subst hv6; clear hl6)
        have hz5 := hx5.size
        have HOB : Hid (∀ g, u3.ownBlock = some g → g < w4.heap.size) := fun g hg => by
          obtain ⟨vals, _, h2, _⟩ := HLT.out
          have := (World.ownsRow.lt h2 g hg).2
          omega
        obtain ⟨wo, rfl⟩ : ∃ wo : World, wo = wr := ⟨_, rfl⟩
        go_loopw [3, 7] (fun out q wq => ∃ k : Nat, k ≤ (refO f (l.eraseIdx i)).length ∧ q = .int .i64 k ∧ ListsOwn wq w.heap.size out (ordMid f l i k) ∧ Ext w wq ∧ Hid (Mid w4.heap.size w5.heap.size w5 wq ∧ ∀ g, out.ownBlock = some g → g < w4.heap.size ∨ w5.heap.size ≤ g) ∧ w5.heap.size ≤ wq.heap.size) (fun _ q _ => (refO f (l.eraseIdx i)).length - (intOf q).toNat)
        case atStart =>
          exact ⟨0, Nat.zero_le _, rfl, by unfold ordMid; rw [List.take_zero, List.map_nil, List.append_nil]; exact (HLT.out.ext hx4).ext hx5, hxw.trans hx5, ⟨Mid.refl _ _ _, fun g hg => .inl (HOB.out g hg)⟩, Nat.le_refl _⟩
        case round =>
          obtain ⟨k, hk, rfl, hLq, hxq, hmid, hzq⟩ := hrel
          have d0 := hxq.cell (show w.cell? ⟨b, o + i, none⟩ = some (.int .i64 x) from HCI.out)
          by_cases hlt2 : k < (refO f (l.eraseIdx i)).length
          · have hLr := HL6.out.mid hmid.out.1
            obtain ⟨a7, c7, he7, _, _, r3⟩ := hLr.rows.open
            cases he7
            obtain ⟨rb, ro, rv, row, hra, hrow, hcr, hri⟩ := r3 k hlt2
            subst hra
            obtain ⟨a3, k3, rfl, g1, g2, _⟩ := hri.open
            have HRI := Lib.hid hri
            have HN := Lib.hid (ordMid_succ hrow.out)
            have hlen7 := ordMid_len (f := f) (by omega) HLEN.out hlt (Nat.le_of_lt hlt2)
            obtain ⟨vals, v1', v2', v3'⟩ := hLq
            have HV := Lib.hid (And.intro v1' (And.intro v2' v3'))
            have hsz : (ordMid f l i k).length + 1 ≤ maxLen ∧ ((ordMid f l i k).length + 1) * 24 ≤ 140737488355328 := by unfold maxLen; omega
            have HSZ := Lib.hid hsz
            have hrl : row.length ≤ 9 := by
              have := refO_mem_len f _ HEL.out row (List.mem_of_getElem? hrow.out)
              omega
            have hrb : w4.heap.size ≤ rb ∧ rb < w5.heap.size := by
              obtain ⟨_, _, h2, _⟩ := HL6.out
              exact World.ownsRow.lt h2 rb rfl
            obtain ⟨hrb1, hrb2⟩ := hrb
            have hs3 : 1 + row.length ≤ maxLen ∧ (1 + row.length) * 8 ≤ 140737488355328 := by unfold maxLen; omega
            have HS3 := Lib.hid hs3
            have HS : Hid (∀ W, Ext wr W → W.cell? ⟨b, o + i, none⟩ = some (.int .i64 x) ∧ W.cell? ⟨rb, ro + k, none⟩ = some (.slice a3 row.length k3)) := fun W h => ⟨h.cell d0, h.cell hcr⟩
            have x1 : decide ((k : Int) < ((refO f (l.eraseIdx i)).length : Int)) = true := by simpa using hlt2
            have x1n : decide (k < (refO f (l.eraseIdx i)).length) = true := by simpa using hlt2
            have y1 : (k : Int) < ((refO f (l.eraseIdx i)).length : Int) := by omega
            have y2 : (0 : Int) ≤ (k : Int) := by omega
            have y3 : (i : Int) < (l.length : Int) := by omega
            have y4 : (0 : Int) ≤ (i : Int) := by omega
            have hbl : rb < wr.heap.size := lt_of_cell hcr
            clear hsz hs3 v1' v2' v3' hlen7 hrow hri r3 hrl
            go_upto_region 12 with fail
            go_region_held3 (fun w' => w'.cell? ⟨b, o + i, none⟩ = some (.int .i64 x) ∧ w'.cell? ⟨rb, ro + k, none⟩ = some (.slice a3 row.length k3))
              (first | exact s8 | exact HS.out _ (by repeat (first | exact hx7 | exact Ext.refl _ | apply Ext.drew | apply Ext.alloc)))
              (first
                | (refine step_append_row E_ints (by rfl) _ _ (by rfl) wr.heap.size (by rfl) (World.ownsRow_lit (base := wr.heap.size) (e := 3) (size := 1) wr.drew #[.int .i64 x] 1 (Nat.le_refl _) one_le_maxLen rfl) (by rfl) (HRI.out.ext (((Ext.refl wr).drew).alloc _)) (by simp) (ints_one _) HS3.out.1 HS3.out.2 (((Ext.refl wr).drew).alloc _).size ?_; intro v7 w7 hown7 hgr7 _
                   have hx7 : Ext wr w7 := (((Ext.refl wr).drew).alloc _).grown hgr7 (fun g hg => by cases hg; exact Nat.le_refl _)
                   have hform : ∃ g cap, v7 = .slice (some ⟨g, 0, none⟩) (1 + row.length) cap := (by rw [Nat.add_comm] at hown7 ⊢; exact owns_succ hown7)
                   obtain ⟨g7, cap7, hv7⟩ := hform
                   subst hv7
                   have HU := Lib.hid (front_owns hxq.size hown7)
                   clear hown7 hgr7)
                | (refine step_push_at E_rows (by rfl) _ _ (by rfl) w.heap.size (by rfl) (owns_ext HV.out.2.1 hx7) (by rfl) (by rfl) (by rfl) (by simp [Value.oneCell']) ?_ HSZ.out.1 HSZ.out.2 (hxq.trans hx7).size; intro g cap w8 hown8 hg8 hloc8
                   have hmg := hmid.out.2
                   have hz7 := hx7.size
                   have hM8 : Mid w4.heap.size w5.heap.size w5 w8 := ((hmid.out.1.ext hzq hx7).ext (by omega) ((Ext.refl w7).alloc _)).grown (by rw [World.size_alloc]; omega) hg8 hmg
                   have hx8 : Ext w w8 := ((hxq.trans hx7).alloc _).grown hg8 (fun g hg => owns_block HV.out.2.1 g hg)
                   have hL8 := lists_push HV.out.1 (owns_ext HV.out.2.1 hx7) (fun i u xs hu hx => owns_ext (HV.out.2.2 i u xs hu hx) hx7) HU.out hown8 hg8
                   have hb8 : ∀ g', (Value.slice (some ⟨g, 0, none⟩) ((ordMid f l i k).length + 1) cap).ownBlock = some g' → g' < w4.heap.size ∨ w5.heap.size ≤ g' := (fun g' hg' => by
                     cases hg'
                     rcases hloc8 with h | h
                     · exact hmg _ h
                     · right; show w5.heap.size ≤ g; omega)
                   have hz8 : w5.heap.size ≤ w8.heap.size := (by have := hg8.size; rw [World.size_alloc] at this; omega)
                   have s8 : w8.cell? ⟨b, o + i, none⟩ = some (.int .i64 x) ∧ w8.cell? ⟨rb, ro + k, none⟩ = some (.slice a3 row.length k3) := ⟨hx8.cell HCI.out, (World.cell?_of_block (w := wr) ((hM8 rb hrb1 hrb2).trans (hmid.out.1 rb hrb1 hrb2).symm)).trans hcr⟩
                   have HP := Lib.hid (And.intro hL8 (And.intro hx8 (And.intro hM8 (And.intro hb8 hz8))))
                   clear hL8 hM8 hb8 hown8 hg8 hloc8 hmg))
            all_goals go_wp2
            all_goals (
              refine ⟨⟨k + 1, by omega, by go_num, ?_, HP.out.2.1, ⟨HP.out.2.2.1, HP.out.2.2.2.1⟩, HP.out.2.2.2.2⟩, by simp [intOf]; omega⟩
              rw [HN.out, HGX.out]
              exact HP.out.1)
          · have hke : k = (refO f (l.eraseIdx i)).length := by omega
            have x1 : decide ((k : Int) < ((refO f (l.eraseIdx i)).length : Int)) = false := by simpa using hlt2
            have x1n : decide (k < (refO f (l.eraseIdx i)).length) = false := by simpa using hlt2
            have HEND : Hid (ordMid f l i k = ordUp f l (i + 1)) := by unfold Hid ordMid; rw [List.take_of_length_le (by omega), ordUp_succ]
            clear hlt2 hke
            go_wp2
            refine ⟨⟨i + 1, by omega, by go_num, by rw [← HEND.out]; exact hLq, hxq⟩, by simp [intOf]; omega⟩
      · have hie : i = l.length := by omega
        have HEND : Hid (ListsOwn wr w.heap.size u3 (refO (f + 1) l)) := by unfold Hid; rw [hie, ordUp_all] at hL; exact hL
        have x1 : decide ((i : Int) < (l.length : Int)) = false := by simpa using hlt
        clear hie hL
        go_wp2
        go_ret
        exact ⟨_, rfl, hx, HEND.out⟩
end Go.Proofs.YtapkbonlijhmjaaGreatDoor
