/- The specification's ListsOf. -/
import Derived.Test.YtoohhefegfpipaaGreatDoorRefq
import Derived.Test.YtoohhefegfpipaaGreatDoorLisq
import Derived.Test.YtoohhefegfpipaaGreatDoorOlo
import Derived.Test.YtoohhefegfpipaaGreatDoorOpr
namespace Go.Proofs.YtoohhefegfpipaaGreatDoor
open Go.RowKit
def fA (b : Book) (e : Nat) (x : List Int) : Int := if allowedB b e x then aheadB b e x else 0
def kA (b : Book) (e : Nat) (x : List Int) : Int := if allowedB b e x then afterB b e x else 0
def stF (b : Book) (e : Nat) (l x : List Int) : Int := if movedL x l ≤ b.moves then fA b e x else 0
def stK (b : Book) (e : Nat) (l x : List Int) : Int := if movedL x l ≤ b.moves then kA b (e + 1) x else 0
theorem pow3125 {e : Nat} (h : e ≤ 2) : (3125 : Int) ^ e ≤ 9765625 := by
 obtain h | h | h : e = 0 ∨ e = 1 ∨ e = 2 := by omega
 all_goals rw [h]; decide
theorem fA_bd {b : Book} (hB : BookB b) {e : Nat} (he : e ≤ 2) (x : List Int) : 0 ≤ fA b e x ∧ fA b e x ≤ 9765625 := by
 unfold fA
 split
 ·exact ⟨ahead_nonneg b e x, Int.le_trans (ahead_le hB e x) (pow3125 he)⟩
 ·omega
theorem kA_bd {b : Book} (hB : BookB b) (e : Nat) (x : List Int) : 0 ≤ kA b e x ∧ kA b e x ≤ 9765625 := by
 unfold kA
 split
 ·exact ⟨back_nonneg b _ e x, Int.le_trans (back_le hB _ e x) (pow3125 (by have := hB.e3; omega))⟩
 ·omega
theorem stF_bd {b : Book} (hB : BookB b) {e : Nat} (he : e ≤ 2) (l x : List Int) : 0 ≤ stF b e l x ∧ stF b e l x ≤ 9765625 := by
 unfold stF
 split
 ·exact fA_bd hB he x
 ·omega
theorem stK_bd {b : Book} (hB : BookB b) (e : Nat) (l x : List Int) : 0 ≤ stK b e l x ∧ stK b e l x ≤ 9765625 := by
 unfold stK
 split
 ·exact kA_bd hB _ x
 ·omega
theorem sumF_all (b : Book) (e : Nat) (l : List Int) : sumTo (stF b e l) b (permsB b).length = aheadB b (e + 1) l := by
 rw [sumTo_all, ← rowF_step]; rfl
theorem sumK_all {b : Book} {e : Nat} (he : e + 1 < b.editions.toNat) (l : List Int) : sumTo (stK b e l) b (permsB b).length = afterB b e l := by
 obtain ⟨d, hd⟩ : ∃ d, b.editions.toNat - 1 - e = d + 1 := ⟨b.editions.toNat - 1 - e - 1, by omega⟩
 have h2 : b.editions.toNat - 1 - (e + 1) = d := by omega
 rw [sumTo_all]
 unfold afterB
 rw [hd, ← rowK_step]
 unfold stK kA afterB
 rw [h2]
theorem rowF_len (b : Book) (e : Nat) : (rowF b e).length = (permsB b).length := by simp [rowF]
theorem rowK_len (b : Book) (e : Nat) : (rowK b e).length = (permsB b).length := by simp [rowK]
theorem rowM_len (b : Book) (e : Nat) : (rowM b e).length = (permsB b).length := by simp [rowM]
theorem perms_pos {b : Book} : 0 < (permsB b).length := by
 have h : numsOf b.goods.length ∈ permsB b := perms_mem.2 ⟨by simp [numsOf], by
  unfold numsOf
  rw [List.nodup_iff_pairwise_ne, List.pairwise_map]
  exact List.Pairwise.imp (fun h e => by omega) (List.pairwise_lt_range), fun x hx => by
  unfold numsOf at hx
  obtain ⟨i, hi, rfl⟩ := List.mem_map.1 hx
  rw [List.mem_range] at hi
  omega⟩
 exact List.length_pos_of_mem h
/-- One row of a row of lists. -/
theorem AllI.row {base n c : Nat} {a : Option Addr} {W : World} {vs : List (Value × List Int)} {rows : List (List Int)} (h : AllI base W (.slice a n c) vs) (hr : vs.map Prod.snd = rows) {i : Nat} {r : List Int} (hi : rows[i]? = some r) :
 ∃ g ra rc, a = some ⟨g, 0, none⟩ ∧ W.cell? ⟨g, i, none⟩ = some (.slice ra r.length rc) ∧ IntsAt W (.slice ra r.length rc) r := by
 subst hr
 rw [List.getElem?_map] at hi
 cases hq : vs[i]? with
 | none => rw [hq] at hi; cases hi
 | some q =>
  rw [hq] at hi
  cases hi
  have hil := (List.getElem?_eq_some_iff.1 hq).1
  obtain ⟨g, cap, hv, _, _⟩ := owns_some h.own (by omega)
  cases hv
  have h1 := (h.ms q (List.mem_of_getElem? hq)).1
  obtain ⟨qa, qc, he, _, _⟩ := h1.open
  refine ⟨g, qa, qc, rfl, ?_, by rw [← he]; exact h1⟩
  rw [h.own.cellAt i (by omega), List.getElem?_map, hq, ← he]; rfl
/-- No row lies in some block. -/
def Off (B : Nat) (vs : List (Value × List Int)) : Prop := ∀ q, q ∈ vs → ∀ a n c, q.1 = .slice (some a) n c → a.block ≠ B
theorem Off.snoc {B : Nat} {vs : List (Value × List Int)} {rv : Value} {l : List Int} (h : Off B vs) (hr : ∀ a n c, rv = .slice (some a) n c → a.block ≠ B) : Off B (vs ++ [(rv, l)]) := fun q hq a n c he => by
 rcases List.mem_append.1 hq with hq | hq
 ·exact h q hq a n c he
 ·rw [List.mem_singleton] at hq; subst hq; exact hr a n c he
theorem Off.set {B i : Nat} {vs : List (Value × List Int)} {rv : Value} {l : List Int} (h : Off B vs) (hr : ∀ a n c, rv = .slice (some a) n c → a.block ≠ B) : Off B (vs.set i (rv, l)) := fun q hq a n c he => by
 rcases List.mem_or_eq_of_mem_set hq with hq | hq
 ·exact h q hq a n c he
 ·subst hq; exact hr a n c he
theorem AllI.off {base : Nat} {W : World} {v : Value} {vs : List (Value × List Int)} (h : AllI base W v vs) : Off W.heap.size vs := fun q hq a n c he => by have := ((h.ms q hq).2 a n c he).2; omega
theorem AllI.store {base B : Nat} {W : World} {v u : Value} {vs : List (Value × List Int)} (h : AllI base W v vs) (ho : Off B vs) (hv : v.ownBlock ≠ some B) (i : Nat) : AllI base (W.setCell ⟨B, i, none⟩ u) v vs :=
 h.touch (Touch.setCell (M := fun j => j = B) _ rfl) (fun g hg e => hv (by rw [hg, e])) (fun q hq a n c he e => ho q hq a n c he e)
theorem rep_set {α : Type} {R : List α} {e : Nat} {r z : α} (h : R[e]? = some r) : (List.replicate (e + 1) z ++ R.drop (e + 1)).set e r = List.replicate e z ++ R.drop e := by
 have hl := (List.getElem?_eq_some_iff.1 h).1
 rw [List.replicate_succ', List.append_assoc, List.set_append, List.length_replicate, if_neg (by omega), Nat.sub_self, List.drop_eq_getElem_cons hl, (List.getElem?_eq_some_iff.1 h).2]
 rfl
theorem rep_at {α : Type} {R : List α} {e : Nat} {r z : α} (h : R[e]? = some r) : (List.replicate e z ++ R.drop e)[e]? = some r := by
 rw [List.getElem?_append_right (by simp), List.length_replicate, Nat.sub_self, List.getElem?_drop]; exact h
theorem take_snoc {α : Type} {L : List α} {i : Nat} {x : α} (h : L[i]? = some x) : L.take (i + 1) = L.take i ++ [x] := by rw [List.take_add_one, h]; rfl
theorem range_get {α : Type} {f : Nat → α} {n i : Nat} (h : i < n) : ((List.range n).map f)[i]? = some (f i) := by rw [List.getElem?_map, List.getElem?_range h]; rfl
/-- A store over a nil slice harms no row that holds none. -/
theorem RowAt.over {W : World} {v z u : Value} {p : Addr} {n : Nat} {cs : List Value} (h : RowAt W v n cs) (hp : W.cell? p = some z) (hz : z ∉ cs) : RowAt (W.setCell p u) v n cs := by
 obtain ⟨a, c, hv, h1, h2, h4, h3⟩ := h
 refine ⟨a, c, hv, h1, h2, h4, fun j x hj => ?_⟩
 obtain ⟨b, o, ha, hc⟩ := h3 j x hj
 refine ⟨b, o, ha, ?_⟩
 rw [World.cell?_setCell_other _ _ _ _ (fun e => ?_)]
 ·exact hc
 ·rw [← e, hp] at hc
  cases hc
  exact hz (List.mem_of_getElem? hj)
theorem IntsAt.over {W : World} {v u : Value} {p : Addr} {l : List Int} (h : IntsAt W v l) (hp : W.cell? p = some (.slice none 0 0)) : IntsAt (W.setCell p u) v l := RowAt.over h hp (fun hm => by simp at hm)
theorem IntRowsAt.over {W : World} {v u : Value} {p : Addr} {rows : List (List Int)} (h : IntRowsAt W v rows) (hne : ∀ r, r ∈ rows → r ≠ []) (hp : W.cell? p = some (.slice none 0 0)) : IntRowsAt (W.setCell p u) v rows := by
 obtain ⟨xs, rfl, h2, h3⟩ := h
 refine ⟨xs, rfl, RowAt.over h2 hp (fun hm => ?_), fun x hx => (h3 x hx).over hp⟩
 obtain ⟨x, hx, hz⟩ := List.mem_flatMap.1 hm
 have hz' : Value.slice none 0 0 = x.1 := by simpa using hz
 obtain ⟨a, c, hv, _, _⟩ := (h3 x hx).open
 rw [← hz'] at hv
 injection hv with _ h4 _
 exact hne x.2 (List.mem_map_of_mem hx) (List.length_eq_zero_iff.1 h4.symm)
abbrev zeroLB : Obj := .cells #[.slice none 0 0, .slice none 0 0] 35
abbrev putL2 (W : World) (k : Nat) (a0 a1 : Value) : World := (W.setCell ⟨k, 0, none⟩ a0).setCell ⟨k, 1, none⟩ a1
theorem putL2_block {W : World} {k : Nat} {z0 z1 : Value} (h : W.heap[k]? = some (.cells #[z0, z1] 35 (0, 0))) (a0 a1 : Value) : (putL2 W k a0 a1).heap[k]? = some (.cells #[a0, a1] 35 (0, 0)) :=
 setCell_block (i := 1) (v := a1) (setCell_block (i := 0) (v := a0) h)
theorem putL2_ext {w W : World} {k : Nat} (h : Ext w W) (hk : w.heap.size ≤ k) (a0 a1 : Value) : Ext w (putL2 W k a0 a1) := (h.setCell (p := ⟨k, 0, none⟩) hk _).setCell (p := ⟨k, 1, none⟩) hk _
theorem block2 {W : World} {k : Nat} {z0 z1 : Value} (h : W.heap[k]? = some (.cells #[z0, z1] 35 (0, 0))) : (W.cell? ⟨k, 0, none⟩ = some z0 ∧ W.cell? ⟨k, 1, none⟩ = some z1) ∧ W.frozen? ⟨k, 0, none⟩ = false ∧ W.frozen? ⟨k, 1, none⟩ = false :=
 ⟨⟨(block_cell h (i := 0) rfl).1, (block_cell h (i := 1) rfl).1⟩, (block_cell h (i := 0) rfl).2, (block_cell h (i := 1) rfl).2⟩
theorem IntRowsAt.over2 {W : World} {v : Value} {k : Nat} {rows : List (List Int)} (h : IntRowsAt W v rows) (hne : ∀ r, r ∈ rows → r ≠ []) (hb : W.heap[k]? = some (.cells #[.slice none 0 0, .slice none 0 0] 35 (0, 0))) (a0 a1 : Value) : IntRowsAt (putL2 W k a0 a1) v rows :=
 (h.over hne (block2 hb).1.1).over hne (block2 (setCell_block (i := 0) (v := a0) hb)).1.2
theorem rowM_ne {b : Book} {E : Nat} : ∀ r, r ∈ (List.range E).map (rowM b) → r ≠ [] := fun r hr e => by
 obtain ⟨i, _, rfl⟩ := List.mem_map.1 hr
 have h := rowM_len b i
 rw [e] at h
 have := perms_pos (b := b)
 simp at h; omega
theorem perm_ne {b : Book} (hB : BookB b) : ∀ r, r ∈ permsB b → r ≠ [] := fun r hr e => by
 have h := (perms_mem.1 hr).1
 rw [e] at h
 have := hB.g2
 simp at h; omega
set_option maxRecDepth 100000 in
set_option maxHeartbeats 16000000 in
theorem rlists_any (v : Value) (b : Book) (w : World) (hB : BookB b) (hb : BookAt w v b) :
 Calls Tryz.prog 60 #[v] w fun e w' => ∃ aa ac ma mc, e = .returned (.agg #[.slice aa (permsB b).length ac, .slice ma b.editions.toNat mc]) ∧ SafeR w.heap.size w' (.slice aa (permsB b).length ac) (permsB b) ∧ SafeR w.heap.size w' (.slice ma b.editions.toNat mc) ((List.range b.editions.toNat).map (rowM b)) ∧ Ext w w' := by
 have hmix : Tryz.prog.follows .mixedOrders = true := by kernel_rfl
 have HBA0 := Lib.hid (fun W1 (h : Ext w W1) => hb.ext h)
 obtain ⟨ga, gc, ea, ec, rfl, hgl, hel⟩ := hb.open
 have hg5 := hB.g5
 have he1 := hB.e1
 have he3 := hB.e3
 obtain ⟨E, hE⟩ : ∃ E : Nat, b.editions.toNat = E := ⟨_, rfl⟩
 have HED : Hid (b.editions = (E : Int)) := by unfold Hid; omega
 have HE3 : Hid (1 ≤ E ∧ E ≤ 3) := by unfold Hid; omega
 have HBB := Lib.hid hB
 have HPN := Lib.hid (perm_ne hB)
 have HOR := Lib.hid (fun W => rorders_any b.goods.length W hg5)
 rw [ordO_all] at HOR
 have HPL0 : Hid (∀ l, l ∈ permsB b → l.length = b.goods.length) := fun l hl => (perms_mem.1 hl).1
 have HPC := Lib.hid (perms_count hB)
 have HPOS := Lib.hid (perms_pos (b := b))
 have HFB := Lib.hid (fun (e : Nat) (he : e ≤ 2) (x : List Int) => fA_bd hB he x)
 have HKB := Lib.hid (fun (e : Nat) (x : List Int) => kA_bd hB e x)
 have HSF := Lib.hid (fun (e : Nat) (he : e ≤ 2) (l : List Int) (k : Nat) => sumTo_bd (b := b) (fun x => stF_bd hB he l x) k)
 have HSK := Lib.hid (fun (e : Nat) (l : List Int) (k : Nat) => sumTo_bd (b := b) (fun x => stK_bd hB e l x) k)
 have HKL := Lib.hid (fun (e : Nat) (he : e + 1 < E) (l : List Int) => sumK_all (b := b) (e := e) (by rw [hE]; exact he) l)
 have HK1 := Lib.hid (fun (e : Nat) (he : e + 1 = E) (l : List Int) => (show afterB b e l = 1 by unfold afterB; rw [show b.editions.toNat - 1 - e = 0 by omega]; rfl))
 rw [hE]
 obtain ⟨W, HW⟩ : ∃ W, Hid (W = (w.alloc (bookBox (.slice ga b.goods.length gc) b (.slice ea b.entries.length ec))).alloc (.cells #[.slice none 0 0, .slice none 0 0] 35)) := ⟨_, rfl⟩
 have HX0 := Lib.hid (show Ext w W by rw [HW.out]; exact ((Ext.refl w).alloc _).alloc _)
 have HBX := Lib.hid (show BoxAt W w.heap.size (.slice ga b.goods.length gc) b (.slice ea b.entries.length ec) by rw [HW.out]; exact BoxAt.ext (BoxAt.new _ _ _ _) ((Ext.refl _).alloc _))
 have HRB : Hid (W.heap[w.heap.size + 1]? = some (.cells #[.slice none 0 0, .slice none 0 0] 35 (0, 0))) := by
  unfold Hid
  rw [HW.out]
  have h := World.alloc_heap_new (w.alloc (bookBox (.slice ga b.goods.length gc) b (.slice ea b.entries.length ec))) (.cells #[.slice none 0 0, .slice none 0 0] 35)
  rwa [show (w.alloc (bookBox (.slice ga b.goods.length gc) b (.slice ea b.entries.length ec))).heap.size = w.heap.size + 1 by simp] at h
 have HWS : Hid (W.heap.size = w.heap.size + 2) := by unfold Hid; rw [HW.out]; simp
 clear hb hB hg5 he1 he3 hgl hel hE
 go_enter Tryz.func60, Tryz.ntmps60
 go_upto_region 1 with fail
 rw [← HW.out]
 obtain ⟨b0, b1, b2, b3⟩ := HBX.out
 go_wp2_with (go_at_call 107; refine (HOR.out _).mono ?_; rintro e w1 ⟨av, rfl, hav, hx1⟩; obtain ⟨aa, ac, rfl, _, _, a3⟩ := hav.at.open; have A3 := Lib.hid a3; have HAV := Lib.hid hav; have HX1 := Lib.hid hx1; clear hav a3 hx1 HOR b0 b1 b2 b3)
 have HF := Lib.hid (fun W2 (h : Ext w1 W2) => BoxAt.ext HBX.out (HX1.out.trans h))
 have HBA := Lib.hid (fun W2 (h : Ext w1 W2) => HBA0.out W2 (HX0.out.trans (HX1.out.trans h)))
 clear HBA0
 go_loopw [4, 5, 6] (fun hv bv j wr => ∃ (e : Nat) (vsa vsb : List (Value × List Int)), e ≤ E ∧ j = .int .i64 (e : Int) ∧ Hid (vsa.map Prod.snd = (List.range e).map (rowF b)) ∧ Hid (vsb.map Prod.snd = List.replicate e []) ∧ Hid (Duo w1.heap.size wr hv bv vsa vsb) ∧ Ext w1 wr) (fun _ _ j _ => E - (intOf j).toNat)
 case atStart => exact ⟨0, [], [], Nat.zero_le _, rfl, rfl, rfl, Duo.nil _ _, Ext.refl _⟩
 case round =>
  obtain ⟨e, vsa, vsb, he, rfl, hva, hvb, hd, hx⟩ := hrel
  obtain ⟨b0, b1, b2, b3⟩ := HF.out _ hx
  have hla : vsa.length = e := by have h := congrArg List.length hva.out; simpa using h
  have hlb : vsb.length = e := by have h := congrArg List.length hvb.out; simpa using h
  have hoa := hd.out.a.own
  have hob := hd.out.b.own
  rw [hla] at hoa
  rw [hlb] at hob
  obtain ⟨ha0, hc0, rfl, _⟩ := RowAt.open (RowAt.of_owns hoa)
  obtain ⟨bb0, bc0, rfl, _⟩ := RowAt.open (RowAt.of_owns hob)
  have HXO := Lib.hid hx
  have HD := Lib.hid hd.out
  have HOA := Lib.hid hoa
  have HOB := Lib.hid hob
  have HLA := Lib.hid hla
  have HLB := Lib.hid hlb
  have HVA := Lib.hid hva.out
  have HVB := Lib.hid hvb.out
  clear hx hd hoa hob hla hlb hva hvb
  by_cases hlt : e < E
  ·have x1 : decide ((e : Int) < b.editions) = true := by rw [HED.out]; simpa using hlt
   have HLT := Lib.hid hlt
   have hE3 := HE3.out.2
   go_wp2
   obtain ⟨wo, rfl⟩ : ∃ wo : World, wo = wr := ⟨_, rfl⟩
   go_loopw [7, 8] (fun rv j wz => ∃ i : Nat, i ≤ (permsB b).length ∧ j = .int .i64 (i : Int) ∧ Hid (wz.ownsRow wo.heap.size 3 1 rv i (((rowF b e).take i).map (.int .i64))) ∧ Ext wo wz) (fun _ j _ => (permsB b).length - (intOf j).toNat)
   case atStart => exact ⟨0, Nat.zero_le _, rfl, World.ownsRow_nil _ _ _ _, Ext.refl _⟩
   case round =>
    obtain ⟨i, hi, rfl, hown, hx⟩ := hrel
    obtain ⟨wz, rfl⟩ : ∃ wz : World, wz = wr := ⟨_, rfl⟩
    by_cases hlt2 : i < (permsB b).length
    ·have x2 : decide ((i : Int) < ((permsB b).length : Int)) = true := by simpa using hlt2
     obtain ⟨ab, ao, l, la, lc, rfl, hpl, d0, hli, _, _⟩ := A3.out i hlt2
     have hll := HPL0.out l (List.mem_of_getElem? hpl.out)
     have HPL := Lib.hid hpl.out
     have HSZ := Lib.hid (show i + 1 ≤ maxLen ∧ (i + 1) * 8 ≤ 140737488355328 by have := HPC.out; unfold maxLen; omega)
     have i1 : (0 : Int) ≤ (i : Int) := by omega
     have i2 : (i : Int) < ((permsB b).length : Int) := by omega
     have HXZ := Lib.hid hx
     have HXOZ := Lib.hid (HXO.out.trans hx)
     have HOWN := Lib.hid hown.out
     have HAL := Lib.hid (fun W (h : Ext wz W) => rallowed_any _ (.slice la l.length lc) b e l W HBB.out hll (HBA.out W (HXOZ.out.trans h)) (hli.ext (HXOZ.out.trans h)))
     have HLL := Lib.hid hll
     have HLI := Lib.hid hli
     clear hown hx hpl hll hli
     by_cases he0 : e = 0
     ·have x4 : ((e : Int) == 0) = true := by simpa using he0
      have x5 : decide (0 < (e : Int)) = false := by simp; omega
      have x5n : decide (0 < e) = false := by simp; omega
      have HONE : Hid (aheadB b e l = 1) := by unfold Hid; rw [he0]; rfl
      clear he0
      go_wp2
      go_loopw [9, 10] (fun nv j wk => j = .int .i64 0 ∧ nv = .int .i64 1 ∧ Ext wz wk) (fun _ _ _ => 0)
      case atStart => exact ⟨rfl, rfl, Ext.refl _⟩
      case round =>
       obtain ⟨rfl, rfl, hx⟩ := hrel
       obtain ⟨wk, rfl⟩ : ∃ wk : World, wk = wr := ⟨_, rfl⟩
       obtain ⟨b0, b1, b2, b3⟩ := HF.out _ (HXOZ.out.trans hx)
       have x3 : decide ((0 : Int) < ((permsB b).length : Int)) = true := by have := HPOS.out; simpa using this
       have HNX := Lib.hid HONE.out
       have HTK := Lib.hid (take_snoc (rowF_get (e := e) HPL.out))
       have HXK := Lib.hid hx
       have HCC := Lib.hid (fun W (h : Ext wk W) => And.intro (HF.out W (HXOZ.out.trans (HXK.out.trans h))) ((HXOZ.out.trans (HXK.out.trans h)).cell d0))
       cases hal : allowedB b e l
       all_goals
        rw [hal] at HAL HTK
        simp only [Bool.false_eq_true, if_false, if_true] at HTK
        try rw [HNX.out] at HTK
        clear hal hx
        go_upto_region 18 with fail
        refine region_reads (C := fun W => Ext wk W) (by kernel_rfl) (by kernel_rfl) ((Ext.refl wk).drew) ?_
        repeat (first | go_big_quiet_skip | (go_big_quiet_want; go_big_quiet_op; first | go_big_quiet_on | (refine ⟨_, fun W hW => rfl, ?_⟩; go_big_quiet_on)) | (go_big_quiet_want; refine ⟨?_, fun W hW => ?_, ?_⟩; rotate_left; (· (obtain ⟨⟨b0, b1, b2, b3⟩, e0⟩ := HCC.out W hW; go_simp; (first | with_reducible rfl | (go_at_call 108; refine (HAL.out W (HXK.out.trans hW)).mono ?_; rintro e w' ⟨rfl, hx9⟩; constructor; with_reducible rfl; exact hW.trans hx9)))); (try simp only [Act.put, yA, yB, yC]); go_big_quiet_on))
        refine wpQuiet_nil ?_
        intro wq hq
        go_wp2_with (first | (at_builtin; refine wpList_push E_ints rfl _ _ rfl wo.heap.size rfl (owns_ext HOWN.out (HXK.out.trans hq)) rfl rfl (by simp [Value.oneCell']) ?_ HSZ.out.1 HSZ.out.2 (HXZ.out.trans (HXK.out.trans hq)).size; intro g5 cap5 w5 hown5 hext5 _; have HO5 := Lib.hid hown5; have HX5 := Lib.hid (hext5 _ (HXZ.out.trans (HXK.out.trans hq)) (Nat.le_refl _)); clear hown5 hext5 HOWN))
        exact ⟨⟨i + 1, by omega, by go_num, by unfold Hid; rw [HTK.out, List.map_append]; exact HO5.out, HX5.out⟩, by simp [intOf]; omega⟩
     ·have x4 : ((e : Int) == 0) = false := by simpa using he0
      have x6 : decide (0 < (e : Int)) = true := by simp; omega
      have x6n : decide (0 < e) = true := by simp; omega
      obtain ⟨e', hee⟩ : ∃ e', e = e' + 1 := ⟨e - 1, by omega⟩
      have HE' : Hid (e' + 1 = e ∧ e' ≤ 2) := by have := HE3.out; unfold Hid; omega
      obtain ⟨hg, ra, rc, rfl, d1, hri⟩ := HD.out.a.row HVA.out (range_get (f := rowF b) (show e' < e by omega))
      obtain ⟨_, _, hve, _, _, r3⟩ := hri.open
      cases hve
      rw [rowF_len] at d1 r3
      have R3 := Lib.hid r3
      have D1 := Lib.hid d1
      have HBD := Lib.hid (fun k => HSF.out e' HE'.out.2 l k)
      have HYB := Lib.hid (fun x => HFB.out e' HE'.out.2 x)
      have HALL : Hid (sumTo (stF b e' l) b (permsB b).length = aheadB b e l) := by unfold Hid; rw [hee]; exact sumF_all b e' l
      have j1 : IntKind.i64.wrap ((e : Int) - 1) = (e' : Int) := by rw [IntWalk.i64_in _ (by omega)]; omega
      have j2 : (0 : Int) ≤ (e' : Int) := by omega
      have j3 : (e' : Int) < (e : Int) := by omega
      clear he0 hee hri r3 d1
      go_wp2
      go_loopw [9, 10] (fun nv j wk => ∃ k : Nat, k ≤ (permsB b).length ∧ j = .int .i64 (k : Int) ∧ nv = .int .i64 (sumTo (stF b e' l) b k) ∧ Ext wz wk) (fun _ j _ => (permsB b).length - (intOf j).toNat)
      case atStart => exact ⟨0, Nat.zero_le _, rfl, by rw [sumTo_zero], Ext.refl _⟩
      case round =>
       obtain ⟨k, hk, rfl, rfl, hx⟩ := hrel
       obtain ⟨wk, rfl⟩ : ∃ wk : World, wk = wr := ⟨_, rfl⟩
       by_cases hlt3 : k < (permsB b).length
       ·have x3 : decide ((k : Int) < ((permsB b).length : Int)) = true := by simpa using hlt3
        obtain ⟨_, _, x, xa, xc, hab, hpx, d2, hxi, _, _⟩ := A3.out k hlt3
        cases hab
        obtain ⟨rb, ro, y, rfl, hry, d3⟩ := R3.out k hlt3
        have hy : y = fA b e' x := by
         have h := hry.out
         rw [rowF_get hpx.out] at h
         exact (Option.some.inj h).symm
        have HMV := Lib.hid (fun W (h : Ext wk W) => rmoved_any (.slice xa x.length xc) (.slice la l.length lc) x l W (hxi.ext (HXOZ.out.trans (hx.trans h))) (HLI.out.ext (HXOZ.out.trans (hx.trans h))) (by rw [HLL.out]; exact HPL0.out x (List.mem_of_getElem? hpx.out)))
        have HS := Lib.hid (sumTo_succ (f := stF b e' l) hpx.out)
        have hb0 := HBD.out k
        have hb1 := HBD.out (k + 1)
        have hyb := HYB.out x
        have hpc := HPC.out
        rw [HS.out] at hb1
        have HCC := Lib.hid (fun W (h : Ext wk W) => And.intro (HF.out W (HXOZ.out.trans (hx.trans h))) (And.intro ((HXOZ.out.trans (hx.trans h)).cell d0) ((HXOZ.out.trans (hx.trans h)).cell d2)))
        have HC3 := Lib.hid (fun W (h : Ext wk W) => And.intro ((HXZ.out.trans (hx.trans h)).cell D1.out) ((HXZ.out.trans (hx.trans h)).cell d3))
        have k1 : (0 : Int) ≤ (k : Int) := by omega
        have k2 : (k : Int) < ((permsB b).length : Int) := by omega
        have HX := Lib.hid hx
        generalize sumTo (stF b e' l) b k = s at *
        by_cases hm : movedL x l ≤ b.moves
        ·have x5 : decide (movedL x l ≤ b.moves) = true := by simpa using hm
         have hst : stF b e' l x = y := by unfold stF; rw [if_pos hm, hy]
         rw [hst] at HS hb1
         have hw1 : IntKind.i64.wrap (s + y) = s + y := IntWalk.i64_in _ (by omega)
         clear hx hpx hy hry hxi d3 hm hst hb0 hb1 hyb hpc HAL
         go_upto_region 16 with fail
         refine region_reads (C := fun W => Ext wk W) (by kernel_rfl) (by kernel_rfl) ((Ext.refl wk).drew) ?_
         repeat (first | go_big_quiet_skip | (go_big_quiet_want; go_big_quiet_op; first | go_big_quiet_on | (refine ⟨_, fun W hW => rfl, ?_⟩; go_big_quiet_on)) | (go_big_quiet_want; refine ⟨?_, fun W hW => ?_, ?_⟩; rotate_left; (· (obtain ⟨⟨b0, b1, b2, b3⟩, e0, e2⟩ := HCC.out W hW; go_simp; (first | with_reducible rfl | (go_at_call 72; refine (HMV.out W hW).mono ?_; rintro e w' ⟨rfl, hx9⟩; constructor; with_reducible rfl; exact hW.trans hx9)))); (try simp only [Act.put, yA, yB, yC]); go_big_quiet_on))
         refine wpQuiet_nil ?_
         intro wq hq
         obtain ⟨c0, c1⟩ := HC3.out wq hq
         go_wp2
         exact ⟨⟨k + 1, by omega, by go_num, by rw [HS.out], HX.out.trans hq⟩, by simp [intOf]; omega⟩
        ·have x5 : decide (movedL x l ≤ b.moves) = false := by simpa using hm
         have hst : stF b e' l x = 0 := by unfold stF; rw [if_neg hm]
         rw [hst, Int.add_zero] at HS
         clear hx hpx hy hry hxi d3 hm hst hb0 hb1 hyb hpc HAL HC3
         go_upto_region 16 with fail
         refine region_reads (C := fun W => Ext wk W) (by kernel_rfl) (by kernel_rfl) ((Ext.refl wk).drew) ?_
         repeat (first | go_big_quiet_skip | (go_big_quiet_want; go_big_quiet_op; first | go_big_quiet_on | (refine ⟨_, fun W hW => rfl, ?_⟩; go_big_quiet_on)) | (go_big_quiet_want; refine ⟨?_, fun W hW => ?_, ?_⟩; rotate_left; (· (obtain ⟨⟨b0, b1, b2, b3⟩, e0, e2⟩ := HCC.out W hW; go_simp; (first | with_reducible rfl | (go_at_call 72; refine (HMV.out W hW).mono ?_; rintro e w' ⟨rfl, hx9⟩; constructor; with_reducible rfl; exact hW.trans hx9)))); (try simp only [Act.put, yA, yB, yC]); go_big_quiet_on))
         refine wpQuiet_nil ?_
         intro wq hq
         go_wp2
         exact ⟨⟨k + 1, by omega, by go_num, by rw [HS.out], HX.out.trans hq⟩, by simp [intOf]; omega⟩
       ·have hke : k = (permsB b).length := by omega
        have x3 : decide ((k : Int) < ((permsB b).length : Int)) = false := by simpa using hlt3
        have HNX : Hid (aheadB b e l = sumTo (stF b e' l) b k) := by unfold Hid; rw [hke]; exact HALL.out.symm
        generalize sumTo (stF b e' l) b k = X at *
        clear hke
        have HTK := Lib.hid (take_snoc (rowF_get (e := e) HPL.out))
        have HXK := Lib.hid hx
        have HCC := Lib.hid (fun W (h : Ext wk W) => And.intro (HF.out W (HXOZ.out.trans (HXK.out.trans h))) ((HXOZ.out.trans (HXK.out.trans h)).cell d0))
        cases hal : allowedB b e l
        all_goals
         rw [hal] at HAL HTK
         simp only [Bool.false_eq_true, if_false, if_true] at HTK
         try rw [HNX.out] at HTK
         clear hal hx
         go_upto_region 18 with fail
         refine region_reads (C := fun W => Ext wk W) (by kernel_rfl) (by kernel_rfl) ((Ext.refl wk).drew) ?_
         repeat (first | go_big_quiet_skip | (go_big_quiet_want; go_big_quiet_op; first | go_big_quiet_on | (refine ⟨_, fun W hW => rfl, ?_⟩; go_big_quiet_on)) | (go_big_quiet_want; refine ⟨?_, fun W hW => ?_, ?_⟩; rotate_left; (· (obtain ⟨⟨b0, b1, b2, b3⟩, e0⟩ := HCC.out W hW; go_simp; (first | with_reducible rfl | (go_at_call 108; refine (HAL.out W (HXK.out.trans hW)).mono ?_; rintro e w' ⟨rfl, hx9⟩; constructor; with_reducible rfl; exact hW.trans hx9)))); (try simp only [Act.put, yA, yB, yC]); go_big_quiet_on))
         refine wpQuiet_nil ?_
         intro wq hq
         go_wp2_with (first | (at_builtin; refine wpList_push E_ints rfl _ _ rfl wo.heap.size rfl (owns_ext HOWN.out (HXK.out.trans hq)) rfl rfl (by simp [Value.oneCell']) ?_ HSZ.out.1 HSZ.out.2 (HXZ.out.trans (HXK.out.trans hq)).size; intro g5 cap5 w5 hown5 hext5 _; have HO5 := Lib.hid hown5; have HX5 := Lib.hid (hext5 _ (HXZ.out.trans (HXK.out.trans hq)) (Nat.le_refl _)); clear hown5 hext5 HOWN))
         exact ⟨⟨i + 1, by omega, by go_num, by unfold Hid; rw [HTK.out, List.map_append]; exact HO5.out, HX5.out⟩, by simp [intOf]; omega⟩
    ·have hie : i = (permsB b).length := by omega
     have x2 : decide ((i : Int) < ((permsB b).length : Int)) = false := by simpa using hlt2
     have hown2 := hown.out
     rw [hie, List.take_of_length_le (by rw [rowF_len]; exact Nat.le_refl _)] at hown2
     obtain ⟨ug, uc, rfl, hu1, hu2⟩ := owns_some hown2 HPOS.out
     have hIR : IntsAt wz (.slice (some ⟨ug, 0, none⟩) (permsB b).length uc) (rowF b e) := IntsAt.of_owns (base := wo.heap.size) (e := 3) (by rw [rowF_len]; exact hown2)
     have HIR := Lib.hid hIR
     have HUG := Lib.hid (And.intro hu1 hu2)
     have HXZ := Lib.hid hx
     have HDZ := Lib.hid (HD.out.ext hx)
     have HSZ := Lib.hid (show e + 1 ≤ maxLen ∧ (e + 1) * 24 ≤ 140737488355328 by have := HE3.out; unfold maxLen; omega)
     have HOAZ := Lib.hid (owns_ext HOA.out hx)
     have HNA : Hid (∀ a n c, (Value.slice (some ⟨ug, 0, none⟩) (permsB b).length uc) = .slice (some a) n c → (Value.slice ha0 e hc0).ownBlock ≠ some a.block ∧ (Value.slice bb0 e bc0).ownBlock ≠ some a.block ∧ a.block < wz.heap.size) := fun a n c he => by
      cases he
      exact ⟨fun h => by have h2 : ug < wo.heap.size := (World.ownsRow.lt HOA.out _ h).2; omega, fun h => by have h2 : ug < wo.heap.size := (World.ownsRow.lt HOB.out _ h).2; omega, hu2⟩
     clear hown hown2 hIR hx hu1 hu2
     go_wp2_with (first
      | (at_builtin; refine wpList_push_at E_intss2 rfl _ _ rfl w1.heap.size rfl HOAZ.out rfl rfl rfl (by simp [Value.oneCell']) ?_ HSZ.out.1 HSZ.out.2 (HXO.out.trans HXZ.out).size; intro g5 cap5 w5 hown5 hext5 hg5 hloc5; have HD5 := Lib.hid (Duo.push HDZ.out HLA.out HIR.out HNA.out hown5 hg5 hloc5); have HX5 := Lib.hid (hext5 _ (HXO.out.trans HXZ.out) (Nat.le_refl _)); have HOB5 := Lib.hid (show w5.ownsRow w1.heap.size 47 1 (.slice bb0 e bc0) e (vsb.map Prod.fst) from (congrArg (fun n => w5.ownsRow w1.heap.size 47 1 (.slice bb0 e bc0) n (vsb.map Prod.fst)) HLB.out) ▸ HD5.out.b.own); clear HOAZ hown5 hext5 hg5 hloc5)
      | (at_builtin; refine wpList_push_at E_intss2 rfl _ _ rfl w1.heap.size rfl HOB5.out rfl rfl rfl (by simp [Value.oneCell']) ?_ HSZ.out.1 HSZ.out.2 HX5.out.size; intro g6 cap6 w6 hown6 hext6 hg6 hloc6; have HD6 := Lib.hid (Duo.push HD5.out.symm HLB.out (ints_none _) (fun a n c h => by cases h) hown6 hg6 hloc6).symm; have HX6 := Lib.hid (hext6 _ HX5.out (Nat.le_refl _)); clear HOB5 hown6 hext6 hg6 hloc6))
     exact ⟨⟨e + 1, _, _, HLT.out, by go_num, by unfold Hid; rw [List.map_append, HVA.out, List.range_succ, List.map_append]; rfl, by unfold Hid; rw [List.map_append, HVB.out, List.replicate_succ']; rfl, HD6.out, HX6.out⟩, by have := HLT.out; simp [intOf]; omega⟩
  ·have hee : E = e := by omega
   have x1 : decide ((e : Int) < b.editions) = false := by rw [HED.out]; simpa using hlt
   subst hee
   have y1 : IntKind.i64.wrap (b.editions - 1) = (E : Int) - 1 := by rw [HED.out]; exact IntWalk.i64_in _ (by have := HE3.out; omega)
   obtain ⟨wl, rfl⟩ : ∃ wl : World, wl = wr := ⟨_, rfl⟩
   obtain ⟨ag, _, hve, hag1, hag2⟩ := owns_some HOA.out HE3.out.1
   cases hve
   obtain ⟨bg, _, hve, hbg1, hbg2⟩ := owns_some HOB.out HE3.out.1
   cases hve
   obtain ⟨W3, HW3⟩ : ∃ W3, Hid (W3 = wl.alloc (.cells #[.slice aa (permsB b).length ac, .slice none 0 0] 35)) := ⟨_, rfl⟩
   have HX3 := Lib.hid (show Ext wl W3 by rw [HW3.out]; exact (Ext.refl wl).alloc _)
   have HB3 : Hid (W3.heap[wl.heap.size]? = some (.cells #[.slice aa (permsB b).length ac, .slice none 0 0] 35 (0, 0))) := by unfold Hid; rw [HW3.out]; exact World.alloc_heap_new _ _
   have HS3 : Hid (W3.heap.size = wl.heap.size + 1) := by unfold Hid; rw [HW3.out]; simp
   have HOF := Lib.hid HD.out.a.off
   have HOFB := Lib.hid HD.out.b.off
   have HAG := Lib.hid (And.intro hag1 hag2)
   have HBG := Lib.hid (And.intro hbg1 hbg2)
   clear hlt he hag1 hag2 hbg1 hbg2
   go_upto_region 24 with fail
   rw [← HW3.out]
   clear b0 b1 b2 b3
   obtain ⟨b0, b1, b2, b3⟩ := HF.out _ (HXO.out.trans HX3.out)
   go_wp2
   clear b0 b1 b2 b3
   go_loopw [12] (fun j wr => ∃ (m : Nat) (vsb : List (Value × List Int)), m ≤ E ∧ j = .int .i64 ((m : Int) - 1) ∧ Hid (vsb.map Prod.snd = List.replicate m [] ++ ((List.range E).map (rowK b)).drop m) ∧ Hid (Duo w1.heap.size wr (.slice (some ⟨ag, 0, none⟩) E hc0) (.slice (some ⟨bg, 0, none⟩) E bc0) vsa vsb) ∧ Hid (Off wl.heap.size vsb) ∧ Hid (wr.heap[wl.heap.size]? = some (.cells #[.slice aa (permsB b).length ac, .slice none 0 0] 35 (0, 0))) ∧ Ext w1 wr) (fun j _ => (intOf j + 1).toNat)
   case atStart => exact ⟨E, vsb, Nat.le_refl _, rfl, by unfold Hid; rw [HVB.out, List.drop_of_length_le (by simp), List.append_nil], HD.out.ext HX3.out, HOFB.out, HB3.out, HXO.out.trans HX3.out⟩
   case round =>
    clear HD HOB HLB HVB HB3 HOA
    obtain ⟨m, vsb, hm, rfl, hvb, hd, hof, hbx, hx⟩ := hrel
    by_cases hm0 : m = 0
    ·subst hm0
     have HVB := Lib.hid hvb.out
     rw [List.replicate_zero, List.nil_append, List.drop_zero] at HVB
     obtain ⟨W4, rfl⟩ : ∃ W4 : World, W4 = wr := ⟨_, rfl⟩
     have HD4 := Lib.hid hd.out
     have HOF4 := Lib.hid hof.out
     have HB4 := Lib.hid hbx.out
     have HX4 := Lib.hid hx
     have HXO3 := Lib.hid (show w1.heap.size ≤ wl.heap.size by have := HAG.out; omega)
     clear hvb hd hof hbx hx hm
     rw [show (((0 : Nat) : Int) - 1) = -1 from rfl]
     go_wp2
     go_loopw [17] (fun j wr => ∃ (e : Nat) (mv : Value) (vsm : List (Value × List Int)), e ≤ E ∧ j = .int .i64 (e : Int) ∧ Hid (vsm.map Prod.snd = (List.range e).map (rowM b)) ∧ Hid (AllI W4.heap.size wr mv vsm) ∧ Hid (Lo W4.heap.size vsm) ∧ Hid (Off wl.heap.size vsm) ∧ Hid (wr.heap[wl.heap.size]? = some (.cells #[.slice aa (permsB b).length ac, mv] 35 (0, 0))) ∧ Hid (Touch (fun j => j = wl.heap.size) W4 wr) ∧ Ext w1 wr) (fun j _ => E - (intOf j).toNat)
     case atStart => exact ⟨0, _, [], Nat.zero_le _, rfl, rfl, AllI.nil _ _, (fun q hq => by simp at hq), (fun q hq => by simp at hq), HB4.out, Touch.refl _ _, HX4.out⟩
     case round =>
      obtain ⟨e, mv, vsm, he, rfl, hvm, hal, hlo, hof, hbx, htt, hx⟩ := hrel
      obtain ⟨b0, b1, b2, b3⟩ := HF.out _ hx
      have hlm : vsm.length = e := by have h := congrArg List.length hvm.out; simpa using h
      have hom := hal.out.own
      rw [hlm] at hom
      obtain ⟨ma, mc, rfl, _⟩ := RowAt.open (RowAt.of_owns hom)
      have HVM := Lib.hid hvm.out
      have HAL3 := Lib.hid hal.out
      have HOM := Lib.hid hom
      have HLO := Lib.hid hlo.out
      have HOFM := Lib.hid hof.out
      have HBX5 := Lib.hid hbx.out
      have HTT := Lib.hid htt.out
      have HLM := Lib.hid hlm
      have HXO := Lib.hid hx
      clear hvm hal hom hof hbx htt hlm hlo
      by_cases hlt : e < E
      ·have x1 : decide ((e : Int) < b.editions) = true := by rw [HED.out]; simpa using hlt
       have hE3 := HE3.out.2
       have HLT := Lib.hid hlt
       have hdA : AllI w1.heap.size wr (.slice (some ⟨ag, 0, none⟩) E hc0) vsa := HD4.out.a.touch HTT.out (fun g hg e => by have h3 : ag = g := (by have h : some ag = some g := hg; cases h; rfl); have := HAG.out.2; omega) (fun q hq a n c he e => HOF.out q hq a n c he e)
       have hdB : AllI w1.heap.size wr (.slice (some ⟨bg, 0, none⟩) E bc0) vsb := HD4.out.b.touch HTT.out (fun g hg e => by have h3 : bg = g := (by have h : some bg = some g := hg; cases h; rfl); have := HBG.out.2; omega) (fun q hq a n c he e => HOF4.out q hq a n c he e)
       obtain ⟨_, ra, rc, hve, d1, hri⟩ := hdA.row HVA.out (range_get (f := rowF b) hlt)
       cases hve
       obtain ⟨_, _, hve, _, _, r3⟩ := hri.open
       cases hve
       rw [rowF_len] at d1 r3
       obtain ⟨_, sa, sc, hve, d2, hsi⟩ := hdB.row HVB.out (range_get (f := rowK b) hlt)
       cases hve
       obtain ⟨_, _, hve, _, _, s3⟩ := hsi.open
       cases hve
       rw [rowK_len] at d2 s3
       have R3 := Lib.hid r3
       have S3 := Lib.hid s3
       have D1 := Lib.hid d1
       have D2 := Lib.hid d2
       have i8 : (0 : Int) ≤ (e : Int) := by omega
       have i9 : (e : Int) < (E : Int) := by omega
       clear hdA hdB hri hsi r3 s3 d1 d2 hx
       go_wp2
       clear b0 b1 b2 b3
       obtain ⟨wo, rfl⟩ : ∃ wo : World, wo = wr := ⟨_, rfl⟩
       go_loopw [18, 19] (fun rv j wz => ∃ i : Nat, i ≤ (permsB b).length ∧ j = .int .i64 (i : Int) ∧ Hid (wz.ownsRow wo.heap.size 3 1 rv i (((rowM b e).take i).map (.int .i64))) ∧ Ext wo wz) (fun _ j _ => (permsB b).length - (intOf j).toNat)
       case atStart => exact ⟨0, Nat.zero_le _, rfl, World.ownsRow_nil _ _ _ _, Ext.refl _⟩
       case round =>
        obtain ⟨i, hi, rfl, hown, hx⟩ := hrel
        obtain ⟨wz, rfl⟩ : ∃ wz : World, wz = wr := ⟨_, rfl⟩
        by_cases hlt2 : i < (permsB b).length
        ·have x2 : decide ((i : Int) < ((permsB b).length : Int)) = true := by simpa using hlt2
         have i1 : (0 : Int) ≤ (i : Int) := by omega
         have i2 : (i : Int) < ((permsB b).length : Int) := by omega
         obtain ⟨rb, ro, x, rfl, hxk, c1⟩ := R3.out i hlt2
         obtain ⟨sb, so, y, rfl, hyk, c2⟩ := S3.out i hlt2
         obtain ⟨l, hl⟩ : ∃ l, (permsB b)[i]? = some l := ⟨_, List.getElem?_eq_getElem hlt2⟩
         have hxv : x = fA b e l := by have h := hxk.out; rw [rowF_get hl] at h; exact (Option.some.inj h).symm
         have hyv : y = kA b e l := by have h := hyk.out; rw [rowK_get hl] at h; exact (Option.some.inj h).symm
         have HTK := Lib.hid (take_snoc (rowM_get (e := e) hl))
         rw [← row_mul, show (if allowedB b e l then aheadB b e l else 0) = fA b e l from rfl, show (if allowedB b e l then afterB b e l else 0) = kA b e l from rfl, ← hxv, ← hyv] at HTK
         have hxb := HFB.out e (by omega) l
         have hyb := HKB.out e l
         rw [← hxv] at hxb
         rw [← hyv] at hyb
         have hm1 := Int.mul_le_mul hxb.2 hyb.2 hyb.1 (by omega)
         have hm0 := Int.mul_nonneg hxb.1 hyb.1
         have hw1 : IntKind.i64.wrap (x * y) = x * y := IntWalk.i64_in _ (by omega)
         have HSZ := Lib.hid (show i + 0 + 1 ≤ maxLen ∧ (i + 0 + 1) * 8 ≤ 140737488355328 by have := HPC.out; unfold maxLen; omega)
         have HXZ := Lib.hid hx
         have HOWN := Lib.hid hown.out
         have HCC := Lib.hid (fun W (h : Ext wo W) => (⟨h.cell D1.out, h.cell c1, h.cell D2.out, h.cell c2⟩ : _ ∧ _ ∧ _ ∧ _))
         clear hxk hyk hl hxv hyv hxb hyb hm0 hm1 c1 c2 hx hown
         go_upto_region 50 with fail
         refine wp_region_noPanic ?_
         refine wp_region_any (by kernel_rfl) (wpAny_of_till (z := 18) (S := (fun W' => Ext wo W' ∧ True)) _ _ _ _ ?_)
         change wpTill _ _ _ _ _ _ _ _ _ wz.drew
         have hS0 := (show Ext wo wz.drew ∧ True from ⟨HXZ.out.drew, trivial⟩)
         refine till_at (i := 0) (d := some 172) (v := ?_) (by kernel_rfl) (by kernel_rfl) (by kernel_rfl) (by kernel_rfl) (by kernel_rfl) (fun _ _ _ h => h) (fun o ho => ?_) hS0 ?_
         rotate_left
         ·simp only [zA, zB, zD] at ho
          subst ho
          refine Or.inl ⟨by rfl, fun w' hSw => ?_⟩
          obtain ⟨hSw0, hSw1⟩ := hSw
          go_simp
          try with_reducible rfl
         try simp only [Act.put, yA, yB, yC]
         refine till_at (i := 1) (d := some 173) (v := ?_) (by kernel_rfl) (by kernel_rfl) (by kernel_rfl) (by kernel_rfl) (by kernel_rfl) (fun _ _ _ h => h) (fun o ho => ?_) hS0 ?_
         rotate_left
         ·simp only [zA, zB, zC, zD] at ho
          subst ho
          refine Or.inl ⟨by rfl, fun w' hSw => ?_⟩
          obtain ⟨hSw0, hSw1⟩ := hSw
          go_simp
          try with_reducible rfl
         try simp only [Act.put, yA, yB, yC]
         refine till_at (i := 2) (d := some 174) (v := ?_) (by kernel_rfl) (by kernel_rfl) (by kernel_rfl) (by kernel_rfl) (by kernel_rfl) (fun _ _ _ h => h) (fun o ho => ?_) hS0 ?_
         rotate_left
         ·simp only [zA, zB, zC, zD] at ho
          subst ho
          refine Or.inl ⟨by rfl, fun w' hSw => ?_⟩
          obtain ⟨hSw0, hSw1⟩ := hSw
          go_simp
          try with_reducible rfl
         try simp only [Act.put, yA, yB, yC]
         refine till_at (i := 3) (d := some 175) (v := ?_) (by kernel_rfl) (by kernel_rfl) (by kernel_rfl) (by kernel_rfl) (by kernel_rfl) (fun _ _ _ h => h) (fun o ho => ?_) hS0 ?_
         rotate_left
         ·simp only [zA, zB, zC, zD] at ho
          subst ho
          refine Or.inl ⟨by rfl, fun w' hSw => ?_⟩
          obtain ⟨hSw0, hSw1⟩ := hSw
          go_simp
          try with_reducible rfl
         try simp only [Act.put, yA, yB, yC]
         refine till_at (i := 4) (d := some 176) (v := ?_) (by kernel_rfl) (by kernel_rfl) (by kernel_rfl) (by kernel_rfl) (by kernel_rfl) (fun _ _ _ h => h) (fun o ho => ?_) hS0 ?_
         rotate_left
         ·simp only [zA, zB, zC, zD] at ho
          subst ho
          refine Or.inl ⟨by rfl, fun w' hSw => ?_⟩
          obtain ⟨hSw0, hSw1⟩ := hSw
          obtain ⟨q0, q1, q2, q3⟩ := HCC.out _ hSw0
          go_simp
          try with_reducible rfl
         try simp only [Act.put, yA, yB, yC]
         refine till_at (i := 5) (d := some 177) (v := ?_) (by kernel_rfl) (by kernel_rfl) (by kernel_rfl) (by kernel_rfl) (by kernel_rfl) (fun _ _ _ h => h) (fun o ho => ?_) hS0 ?_
         rotate_left
         ·simp only [zA, zB, zC, zD] at ho
          subst ho
          refine Or.inl ⟨by rfl, fun w' hSw => ?_⟩
          obtain ⟨hSw0, hSw1⟩ := hSw
          go_simp
          try with_reducible rfl
         try simp only [Act.put, yA, yB, yC]
         refine till_at (i := 6) (d := some 178) (v := ?_) (by kernel_rfl) (by kernel_rfl) (by kernel_rfl) (by kernel_rfl) (by kernel_rfl) (fun _ _ _ h => h) (fun o ho => ?_) hS0 ?_
         rotate_left
         ·simp only [zA, zB, zC, zD] at ho
          subst ho
          refine Or.inl ⟨by rfl, fun w' hSw => ?_⟩
          obtain ⟨hSw0, hSw1⟩ := hSw
          go_simp
          try with_reducible rfl
         try simp only [Act.put, yA, yB, yC]
         refine till_at (i := 7) (d := some 179) (v := ?_) (by kernel_rfl) (by kernel_rfl) (by kernel_rfl) (by kernel_rfl) (by kernel_rfl) (fun _ _ _ h => h) (fun o ho => ?_) hS0 ?_
         rotate_left
         ·simp only [zA, zB, zC, zD] at ho
          subst ho
          refine Or.inl ⟨by rfl, fun w' hSw => ?_⟩
          obtain ⟨hSw0, hSw1⟩ := hSw
          obtain ⟨q0, q1, q2, q3⟩ := HCC.out _ hSw0
          go_simp
          try with_reducible rfl
         try simp only [Act.put, yA, yB, yC]
         refine till_at (i := 8) (d := some 180) (v := ?_) (by kernel_rfl) (by kernel_rfl) (by kernel_rfl) (by kernel_rfl) (by kernel_rfl) (fun _ _ _ h => h) (fun o ho => ?_) hS0 ?_
         rotate_left
         ·simp only [zA, zB, zC, zD] at ho
          subst ho
          refine Or.inl ⟨by rfl, fun w' hSw => ?_⟩
          obtain ⟨hSw0, hSw1⟩ := hSw
          go_simp
          try with_reducible rfl
         try simp only [Act.put, yA, yB, yC]
         refine till_at (i := 9) (d := some 181) (v := ?_) (by kernel_rfl) (by kernel_rfl) (by kernel_rfl) (by kernel_rfl) (by kernel_rfl) (fun _ _ _ h => h) (fun o ho => ?_) hS0 ?_
         rotate_left
         ·simp only [zA, zB, zC, zD] at ho
          subst ho
          refine Or.inl ⟨by rfl, fun w' hSw => ?_⟩
          obtain ⟨hSw0, hSw1⟩ := hSw
          go_simp
          try with_reducible rfl
         try simp only [Act.put, yA, yB, yC]
         refine till_at (i := 10) (d := some 182) (v := ?_) (by kernel_rfl) (by kernel_rfl) (by kernel_rfl) (by kernel_rfl) (by kernel_rfl) (fun _ _ _ h => h) (fun o ho => ?_) hS0 ?_
         rotate_left
         ·simp only [zA, zB, zC, zD] at ho
          subst ho
          refine Or.inl ⟨by rfl, fun w' hSw => ?_⟩
          obtain ⟨hSw0, hSw1⟩ := hSw
          go_simp
          try with_reducible rfl
         try simp only [Act.put, yA, yB, yC]
         refine till_at (i := 11) (d := some 183) (v := ?_) (by kernel_rfl) (by kernel_rfl) (by kernel_rfl) (by kernel_rfl) (by kernel_rfl) (fun _ _ _ h => h) (fun o ho => ?_) hS0 ?_
         rotate_left
         ·simp only [zA, zB, zC, zD] at ho
          subst ho
          refine Or.inl ⟨by rfl, fun w' hSw => ?_⟩
          obtain ⟨hSw0, hSw1⟩ := hSw
          obtain ⟨q0, q1, q2, q3⟩ := HCC.out _ hSw0
          go_simp
          try with_reducible rfl
         try simp only [Act.put, yA, yB, yC]
         refine till_at (i := 12) (d := some 184) (v := ?_) (by kernel_rfl) (by kernel_rfl) (by kernel_rfl) (by kernel_rfl) (by kernel_rfl) (fun _ _ _ h => h) (fun o ho => ?_) hS0 ?_
         rotate_left
         ·simp only [zA, zB, zC, zD] at ho
          subst ho
          refine Or.inl ⟨by rfl, fun w' hSw => ?_⟩
          obtain ⟨hSw0, hSw1⟩ := hSw
          go_simp
          try with_reducible rfl
         try simp only [Act.put, yA, yB, yC]
         refine till_at (i := 13) (d := some 185) (v := ?_) (by kernel_rfl) (by kernel_rfl) (by kernel_rfl) (by kernel_rfl) (by kernel_rfl) (fun _ _ _ h => h) (fun o ho => ?_) hS0 ?_
         rotate_left
         ·simp only [zA, zB, zC, zD] at ho
          subst ho
          refine Or.inl ⟨by rfl, fun w' hSw => ?_⟩
          obtain ⟨hSw0, hSw1⟩ := hSw
          go_simp
          try with_reducible rfl
         try simp only [Act.put, yA, yB, yC]
         refine till_at (i := 14) (d := some 186) (v := ?_) (by kernel_rfl) (by kernel_rfl) (by kernel_rfl) (by kernel_rfl) (by kernel_rfl) (fun _ _ _ h => h) (fun o ho => ?_) hS0 ?_
         rotate_left
         ·simp only [zA, zB, zC, zD] at ho
          subst ho
          refine Or.inl ⟨by rfl, fun w' hSw => ?_⟩
          obtain ⟨hSw0, hSw1⟩ := hSw
          obtain ⟨q0, q1, q2, q3⟩ := HCC.out _ hSw0
          go_simp
          try with_reducible rfl
         try simp only [Act.put, yA, yB, yC]
         refine till_at (i := 15) (d := some 187) (v := ?_) (by kernel_rfl) (by kernel_rfl) (by kernel_rfl) (by kernel_rfl) (by kernel_rfl) (fun _ _ _ h => h) (fun o ho => ?_) hS0 ?_
         rotate_left
         ·simp only [zA, zB, zC, zD] at ho
          subst ho
          refine Or.inl ⟨by rfl, fun w' hSw => ?_⟩
          obtain ⟨hSw0, hSw1⟩ := hSw
          go_simp
          try with_reducible rfl
         try simp only [Act.put, yA, yB, yC]
         refine till_step (i := 16) (by kernel_rfl) (by kernel_rfl) (fun o ho K' hK => ?_)
         simp only [zA, zB, zC, zD] at ho
         subst ho
         go_simp
         have hS16 := (show Ext wo (wz.drew.alloc (.cells #[.int .i64 (x * y)] 3)) ∧ True from ⟨HXZ.out.drew.alloc _, trivial⟩)
         refine hK.out _ _ (fun _ => hS16) (fun _ => ?_)
         clear hK K'
         try simp only [Act.put, yA, yB, yC]
         refine till_step (i := 17) (by kernel_rfl) (by kernel_rfl) (fun o ho K' hK => ?_)
         simp only [zA, zB, zC, zD] at ho
         subst ho
         refine step_push_n (q := 0) E_ints (by rfl) _ _ (by rfl) wo.heap.size (by rfl) (owns_ext HOWN.out (Ext.refl wz).drew) (by rfl) (by rfl) (by rfl) (by decide) (by simp [Value.oneCell']) ?_ HSZ.out.1 HSZ.out.2 HXZ.out.size
         intro g5 cap5 w5 hown5 hg5 hloc5
         have HO5 := Lib.hid hown5
         have HX5 := Lib.hid (show Ext wo w5 from Ext.grown (HXZ.out.drew.alloc _) hg5 (fun k hk => owns_block HOWN.out k hk))
         clear hown5 hloc5
         have hS17 := (And.intro HX5.out trivial)
         refine hK.out _ _ (fun _ => hS17) (fun _ => ?_)
         clear hK K'
         try simp only [Act.put, yA, yB, yC]
         refine till_step (i := 18) (by kernel_rfl) (by kernel_rfl) (fun o ho K' hK => ?_)
         simp only [zA, zB, zC, zD] at ho
         subst ho
         go_simp
         refine hK.out _ _ (fun h => absurd rfl h) (fun _ => ?_)
         clear hK K'
         try simp only [Act.put, yA, yB, yC]
         refine till_done (by kernel_rfl) ?_ _
         refine NoPanic.normal ?_
         try simp only [Act.put, yA, yB, yC]
         clear hS0 hS16 hS17
         go_wp2
         exact ⟨⟨i + 1, by omega, by go_num, by unfold Hid; rw [HTK.out, List.map_append]; exact HO5.out, HX5.out⟩, by simp [intOf]; omega⟩
        ·have hie : i = (permsB b).length := by omega
         have x2 : decide ((i : Int) < ((permsB b).length : Int)) = false := by simpa using hlt2
         have hown2 := hown.out
         rw [hie, List.take_of_length_le (by rw [rowM_len]; exact Nat.le_refl _)] at hown2
         obtain ⟨ug, uc, rfl, hu1, hu2⟩ := owns_some hown2 HPOS.out
         have hIR : IntsAt wz (.slice (some ⟨ug, 0, none⟩) (permsB b).length uc) (rowM b e) := IntsAt.of_owns (base := wo.heap.size) (e := 3) (by rw [rowM_len]; exact hown2)
         have HIR := Lib.hid hIR
         have HUG := Lib.hid (And.intro hu1 hu2)
         have HXZ := Lib.hid hx
         have HSZ := Lib.hid (show e + 1 ≤ maxLen ∧ (e + 1) * 24 ≤ 140737488355328 by have := HE3.out; unfold maxLen; omega)
         have HOMZ := Lib.hid (owns_ext HOM.out hx)
         have HAZ := Lib.hid (HAL3.out.ext hx)
         have hBS := (Array.getElem?_eq_some_iff.1 HB4.out).1
         have hTS := HTT.out.size
         have HBZ := Lib.hid ((hx.block (Array.getElem?_eq_some_iff.1 HBX5.out).1).trans HBX5.out)
         have HSW := Lib.hid (show W4.heap.size ≤ wz.heap.size from Nat.le_trans hTS hx.size)
         have HNA : Hid (∀ a n c, (Value.slice (some ⟨ug, 0, none⟩) (permsB b).length uc) = .slice (some a) n c → (Value.slice ma e mc).ownBlock ≠ some a.block ∧ a.block < wz.heap.size) := fun a n c he => by
          cases he
          exact ⟨fun h => by have h2 : ug < wo.heap.size := (World.ownsRow.lt HOM.out _ h).2; omega, hu2⟩
         have HNB : Hid (∀ a n c, (Value.slice (some ⟨ug, 0, none⟩) (permsB b).length uc) = .slice (some a) n c → a.block ≠ wl.heap.size) := fun a n c he => by
          cases he
          intro h
          have h4 : ug = wl.heap.size := h
          omega
         have HBS := Lib.hid hBS
         have HUL := Lib.hid (show W4.heap.size ≤ ug from Nat.le_trans hTS hu1)
         obtain ⟨⟨z0, z1⟩, f0, f1⟩ := block2 HBZ.out
         clear hown hown2 hIR hx hu1 hu2 hBS hTS
         go_wp2_with (at_builtin; refine wpList_push_at E_intss2 rfl _ _ rfl W4.heap.size rfl HOMZ.out rfl rfl rfl (by simp [Value.oneCell']) ?_ HSZ.out.1 HSZ.out.2 HSW.out; intro g6 cap6 w6 hown6 hext6 hg6 hloc6; have HA6 := Lib.hid (AllI.pushv HAZ.out HLM.out HIR.out HNA.out hown6 hg6 hloc6); have HX6 := Lib.hid (hext6 w1 (HXO.out.trans HXZ.out) HX4.out.size); have HT6 := Lib.hid (show Touch (fun j => j = wl.heap.size) W4 w6 from Touch.of_new (N := fun j => j = wl.heap.size ∨ (Value.slice ma e mc).ownBlock = some j) ((HTT.out.mono (fun k h => .inl h)).trans ((Touch.of_ext (HXZ.out.alloc _)).trans (Touch.grown hg6 (fun k hk => .inr hk)))) (fun k hk hl => hk.elim id (fun h => absurd (owns_block HOMZ.out k h) (by omega)))); have HB6 := Lib.hid (((Touch.of_ext ((Ext.refl wz).alloc _)).trans (Touch.grown (M := fun j => (Value.slice ma e mc).ownBlock = some j) hg6 (fun k hk => hk))).keep _ _ HBZ.out (fun h => by have := owns_block HOMZ.out _ h; have := HBS.out; omega)); have HG6 := Lib.hid (owns_block hown6 g6 rfl); obtain ⟨⟨k0, k1⟩, h0, h1⟩ := block2 HB6.out; clear hown6 hext6 hg6 hloc6 z0 z1 f0 f1)
         exact ⟨⟨e + 1, _, vsm ++ [(_, rowM b e)], HLT.out, by go_num, by unfold Hid; rw [List.map_append, HVM.out, List.range_succ, List.map_append]; rfl, HA6.out.store (HOFM.out.snoc HNB.out) (fun h => by have h2 : g6 = wl.heap.size := (by have h : some g6 = some wl.heap.size := h; cases h; rfl); have := HG6.out; have := HBS.out; omega) 1, HLO.out.snoc (fun a n c he => by cases he; exact HUL.out), HOFM.out.snoc HNB.out, setCell_block (i := 1) HB6.out, HT6.out.trans (Touch.setCell (a := ⟨wl.heap.size, 1, none⟩) _ rfl), HX6.out.setCell (p := ⟨wl.heap.size, 1, none⟩) HXO3.out _⟩, by simp [intOf]; omega⟩
      ·have hee : E = e := by omega
       have x1 : decide ((e : Int) < b.editions) = false := by rw [HED.out]; simpa using hlt
       subst hee
       obtain ⟨⟨z0, z1⟩, f0, f1⟩ := block2 HBX5.out
       have HRW := Lib.hid (((HX1.out.trans hx).block (by rw [HWS.out]; omega)).trans HRB.out)
       obtain ⟨⟨u0, u1⟩, g0, g1⟩ := block2 HRW.out
       have hT2 : Touch (fun j => j < W.heap.size) wr (putL2 wr (w.heap.size + 1) (.slice aa (permsB b).length ac) (.slice ma E mc)) := (Touch.setCell (M := fun j => j < W.heap.size) (a := ⟨w.heap.size + 1, 0, none⟩) _ (by rw [HWS.out]; simp)).trans (Touch.setCell (a := ⟨w.heap.size + 1, 1, none⟩) _ (by rw [HWS.out]; simp))
       have hW4 : W.heap.size ≤ W4.heap.size := Nat.le_trans HX1.out.size HX4.out.size
       have HRA := Lib.hid (HAV.out.on ((Touch.of_ext hx).trans hT2) (show w.heap.size ≤ W.heap.size by rw [HWS.out]; omega))
       have HRM := Lib.hid ((HAL3.out.safe HLO.out HVM.out).on (hT2.mono (fun _ hj => Nat.lt_of_lt_of_le hj hW4)) (show w.heap.size ≤ W4.heap.size by have := HWS.out; omega))
       have HXF := Lib.hid (HX0.out.trans (HX1.out.trans hx))
       obtain ⟨⟨r0, r1⟩, -⟩ := block2 (putL2_block HRW.out (.slice aa (permsB b).length ac) (.slice ma E mc))
       clear hlt hx hT2 hW4
       go_wp2
       refine bodyPost_ret (v := .agg #[.slice aa (permsB b).length ac, .slice ma E mc]) (by simp only [putL2] at r0 r1; simp [results, Tryz.results60, go_sem, r0, r1]) rfl ?_
       exact ⟨_, _, _, _, rfl, HRA.out, HRM.out, putL2_ext HXF.out (by omega) _ _⟩
    ·obtain ⟨e, rfl⟩ : ∃ e, m = e + 1 := ⟨m - 1, by omega⟩
     rw [show (((e + 1 : Nat) : Int) - 1) = (e : Int) by omega]
     have x1 : decide ((0 : Int) ≤ (e : Int)) = true := by simp
     have j5 : IntKind.i64.wrap ((e : Int) - 1) = (e : Int) - 1 := IntWalk.i64_in _ (by have := HE3.out; omega)
     have i8 : (0 : Int) ≤ (e : Int) := by omega
     have i9 : (e : Int) < (E : Int) := by omega
     have HXO := Lib.hid hx
     have HD := Lib.hid hd.out
     have HOFM := Lib.hid hof.out
     have HBX4 := Lib.hid hbx.out
     have HVB := Lib.hid hvb.out
     have HLT := Lib.hid (show e + 1 ≤ E from hm)
     clear hm0 hm hx hd hof hbx hvb
     go_wp2
     obtain ⟨wo, rfl⟩ : ∃ wo : World, wo = wr := ⟨_, rfl⟩
     go_loopw [13, 14] (fun rv j wz => ∃ i : Nat, i ≤ (permsB b).length ∧ j = .int .i64 (i : Int) ∧ Hid (wz.ownsRow wo.heap.size 3 1 rv i (((rowK b e).take i).map (.int .i64))) ∧ Ext wo wz) (fun _ j _ => (permsB b).length - (intOf j).toNat)
     case atStart => exact ⟨0, Nat.zero_le _, rfl, World.ownsRow_nil _ _ _ _, Ext.refl _⟩
     case round =>
      obtain ⟨i, hi, rfl, hown, hx⟩ := hrel
      obtain ⟨wz, rfl⟩ : ∃ wz : World, wz = wr := ⟨_, rfl⟩
      by_cases hlt2 : i < (permsB b).length
      ·have x2 : decide ((i : Int) < ((permsB b).length : Int)) = true := by simpa using hlt2
       obtain ⟨ab, ao, l, la, lc, rfl, hpl, d0, hli, _, _⟩ := A3.out i hlt2
       have hll := HPL0.out l (List.mem_of_getElem? hpl.out)
       have HPL := Lib.hid hpl.out
       have HSZ := Lib.hid (show i + 1 ≤ maxLen ∧ (i + 1) * 8 ≤ 140737488355328 by have := HPC.out; unfold maxLen; omega)
       have i1 : (0 : Int) ≤ (i : Int) := by omega
       have i2 : (i : Int) < ((permsB b).length : Int) := by omega
       have HXZ := Lib.hid hx
       have HXOZ := Lib.hid (HXO.out.trans hx)
       have HOWN := Lib.hid hown.out
       have HAL := Lib.hid (fun W (h : Ext wz W) => rallowed_any _ (.slice la l.length lc) b e l W HBB.out hll (HBA.out W (HXOZ.out.trans h)) (hli.ext (HXOZ.out.trans h)))
       have HLL := Lib.hid hll
       have HLI := Lib.hid hli
       clear hown hx hpl hll hli
       have HLT2 := Lib.hid HLT.out
       obtain ⟨b0, b1, b2, b3⟩ := HF.out _ HXOZ.out
       by_cases he0 : e + 1 = E
       ·have x4 : ((e : Int) == (E : Int) - 1) = true := by rw [beq_iff_eq]; omega
        have x5 : decide ((e : Int) < (E : Int) - 1) = false := by simp; omega
        have HONE := Lib.hid (HK1.out e he0 l)
        clear he0
        go_wp2
        clear b0 b1 b2 b3
        go_loopw [15, 16] (fun nv j wk => j = .int .i64 0 ∧ nv = .int .i64 1 ∧ Ext wz wk) (fun _ _ _ => 0)
        case atStart => exact ⟨rfl, rfl, Ext.refl _⟩
        case round =>
         obtain ⟨rfl, rfl, hx⟩ := hrel
         obtain ⟨wk, rfl⟩ : ∃ wk : World, wk = wr := ⟨_, rfl⟩
         obtain ⟨b0, b1, b2, b3⟩ := HF.out _ (HXOZ.out.trans hx)
         have x3 : decide ((0 : Int) < ((permsB b).length : Int)) = true := by have := HPOS.out; simpa using this
         have HNX := Lib.hid HONE.out
         have HTK := Lib.hid (take_snoc (rowK_get (e := e) HPL.out))
         have HXK := Lib.hid hx
         have HCC := Lib.hid (fun W (h : Ext wk W) => And.intro (HF.out W (HXOZ.out.trans (HXK.out.trans h))) ((HXOZ.out.trans (HXK.out.trans h)).cell d0))
         cases hal : allowedB b e l
         all_goals
          rw [hal] at HAL HTK
          simp only [Bool.false_eq_true, if_false, if_true] at HTK
          try rw [HNX.out] at HTK
          clear hal hx
          go_upto_region 39 with fail
          refine region_reads (C := fun W => Ext wk W) (by kernel_rfl) (by kernel_rfl) ((Ext.refl wk).drew) ?_
          repeat (first | go_big_quiet_skip | (go_big_quiet_want; go_big_quiet_op; first | go_big_quiet_on | (refine ⟨_, fun W hW => rfl, ?_⟩; go_big_quiet_on)) | (go_big_quiet_want; refine ⟨?_, fun W hW => ?_, ?_⟩; rotate_left; (· (obtain ⟨⟨b0, b1, b2, b3⟩, e0⟩ := HCC.out W hW; go_simp; (first | with_reducible rfl | (go_at_call 108; refine (HAL.out W (HXK.out.trans hW)).mono ?_; rintro e w' ⟨rfl, hx9⟩; constructor; with_reducible rfl; exact hW.trans hx9)))); (try simp only [Act.put, yA, yB, yC]); go_big_quiet_on))
          refine wpQuiet_nil ?_
          intro wq hq
          go_wp2_with (first | (at_builtin; refine wpList_push E_ints rfl _ _ rfl wo.heap.size rfl (owns_ext HOWN.out (HXK.out.trans hq)) rfl rfl (by simp [Value.oneCell']) ?_ HSZ.out.1 HSZ.out.2 (HXZ.out.trans (HXK.out.trans hq)).size; intro g5 cap5 w5 hown5 hext5 _; have HO5 := Lib.hid hown5; have HX5 := Lib.hid (hext5 _ (HXZ.out.trans (HXK.out.trans hq)) (Nat.le_refl _)); clear hown5 hext5 HOWN))
          exact ⟨⟨i + 1, by omega, by go_num, by unfold Hid; rw [HTK.out, List.map_append]; exact HO5.out, HX5.out⟩, by simp [intOf]; omega⟩
       ·have x4 : ((e : Int) == (E : Int) - 1) = false := by rw [beq_eq_false_iff_ne]; omega
        have x6 : decide ((e : Int) < (E : Int) - 1) = true := by simp; omega
        obtain ⟨_, ra, rc, hve, d1, hri⟩ := HD.out.b.row HVB.out (rep_at (range_get (f := rowK b) (show e + 1 < E by omega)))
        cases hve
        obtain ⟨_, _, hve, _, _, r3⟩ := hri.open
        cases hve
        rw [rowK_len] at d1 r3
        have R3 := Lib.hid r3
        have D1 := Lib.hid d1
        have HBD := Lib.hid (fun k => HSK.out e l k)
        have HYB := Lib.hid (fun x => HKB.out (e + 1) x)
        have HALL := Lib.hid (HKL.out e (by omega) l)
        have j1 : IntKind.i64.wrap ((e : Int) + 1) = (e : Int) + 1 := IntWalk.i64_in _ (by omega)
        have j2 : (0 : Int) ≤ (e : Int) + 1 := by omega
        have j3 : (e : Int) + 1 < (E : Int) := by omega
        have j4 : ((e : Int) + 1).toNat = e + 1 := by omega
        clear he0 hri r3 d1
        go_wp2
        clear b0 b1 b2 b3
        go_loopw [15, 16] (fun nv j wk => ∃ k : Nat, k ≤ (permsB b).length ∧ j = .int .i64 (k : Int) ∧ nv = .int .i64 (sumTo (stK b e l) b k) ∧ Ext wz wk) (fun _ j _ => (permsB b).length - (intOf j).toNat)
        case atStart => exact ⟨0, Nat.zero_le _, rfl, by rw [sumTo_zero], Ext.refl _⟩
        case round =>
         obtain ⟨k, hk, rfl, rfl, hx⟩ := hrel
         obtain ⟨wk, rfl⟩ : ∃ wk : World, wk = wr := ⟨_, rfl⟩
         obtain ⟨b0, b1, b2, b3⟩ := HF.out _ (HXOZ.out.trans hx)
         by_cases hlt3 : k < (permsB b).length
         ·have x3 : decide ((k : Int) < ((permsB b).length : Int)) = true := by simpa using hlt3
          obtain ⟨_, _, x, xa, xc, hab, hpx, d2, hxi, _, _⟩ := A3.out k hlt3
          cases hab
          obtain ⟨rb, ro, y, rfl, hry, d3⟩ := R3.out k hlt3
          have hy : y = kA b (e + 1) x := by
           have h := hry.out
           rw [rowK_get hpx.out] at h
           exact (Option.some.inj h).symm
          have HMV := Lib.hid (fun W (h : Ext wk W) => rmoved_any (.slice xa x.length xc) (.slice la l.length lc) x l W (hxi.ext (HXOZ.out.trans (hx.trans h))) (HLI.out.ext (HXOZ.out.trans (hx.trans h))) (by rw [HLL.out]; exact HPL0.out x (List.mem_of_getElem? hpx.out)))
          have HS := Lib.hid (sumTo_succ (f := stK b e l) hpx.out)
          have hb0 := HBD.out k
          have hb1 := HBD.out (k + 1)
          have hyb := HYB.out x
          have hpc := HPC.out
          rw [HS.out] at hb1
          have HCC := Lib.hid (fun W (h : Ext wk W) => And.intro (HF.out W (HXOZ.out.trans (hx.trans h))) (And.intro ((HXOZ.out.trans (hx.trans h)).cell d0) ((HXOZ.out.trans (hx.trans h)).cell d2)))
          have HC3 := Lib.hid (fun W (h : Ext wk W) => And.intro ((HXZ.out.trans (hx.trans h)).cell D1.out) ((HXZ.out.trans (hx.trans h)).cell d3))
          have k1 : (0 : Int) ≤ (k : Int) := by omega
          have k2 : (k : Int) < ((permsB b).length : Int) := by omega
          have HX := Lib.hid hx
          generalize sumTo (stK b e l) b k = s at *
          by_cases hm : movedL x l ≤ b.moves
          ·have x5 : decide (movedL x l ≤ b.moves) = true := by simpa using hm
           have hst : stK b e l x = y := by unfold stK; rw [if_pos hm, hy]
           rw [hst] at HS hb1
           have hw1 : IntKind.i64.wrap (s + y) = s + y := IntWalk.i64_in _ (by omega)
           clear hx hpx hy hry hxi d3 hm hst hb0 hb1 hyb hpc HAL
           go_upto_region 37 with fail
           refine region_reads (C := fun W => Ext wk W) (by kernel_rfl) (by kernel_rfl) ((Ext.refl wk).drew) ?_
           repeat (first | go_big_quiet_skip | (go_big_quiet_want; go_big_quiet_op; first | go_big_quiet_on | (refine ⟨_, fun W hW => rfl, ?_⟩; go_big_quiet_on)) | (go_big_quiet_want; refine ⟨?_, fun W hW => ?_, ?_⟩; rotate_left; (· (obtain ⟨⟨b0, b1, b2, b3⟩, e0, e2⟩ := HCC.out W hW; go_simp; (first | with_reducible rfl | (go_at_call 72; refine (HMV.out W hW).mono ?_; rintro e w' ⟨rfl, hx9⟩; constructor; with_reducible rfl; exact hW.trans hx9)))); (try simp only [Act.put, yA, yB, yC]); go_big_quiet_on))
           refine wpQuiet_nil ?_
           intro wq hq
           obtain ⟨c0, c1⟩ := HC3.out wq hq
           go_wp2
           exact ⟨⟨k + 1, by omega, by go_num, by rw [HS.out], HX.out.trans hq⟩, by simp [intOf]; omega⟩
          ·have x5 : decide (movedL x l ≤ b.moves) = false := by simpa using hm
           have hst : stK b e l x = 0 := by unfold stK; rw [if_neg hm]
           rw [hst, Int.add_zero] at HS
           clear hx hpx hy hry hxi d3 hm hst hb0 hb1 hyb hpc HAL HC3
           go_upto_region 37 with fail
           refine region_reads (C := fun W => Ext wk W) (by kernel_rfl) (by kernel_rfl) ((Ext.refl wk).drew) ?_
           repeat (first | go_big_quiet_skip | (go_big_quiet_want; go_big_quiet_op; first | go_big_quiet_on | (refine ⟨_, fun W hW => rfl, ?_⟩; go_big_quiet_on)) | (go_big_quiet_want; refine ⟨?_, fun W hW => ?_, ?_⟩; rotate_left; (· (obtain ⟨⟨b0, b1, b2, b3⟩, e0, e2⟩ := HCC.out W hW; go_simp; (first | with_reducible rfl | (go_at_call 72; refine (HMV.out W hW).mono ?_; rintro e w' ⟨rfl, hx9⟩; constructor; with_reducible rfl; exact hW.trans hx9)))); (try simp only [Act.put, yA, yB, yC]); go_big_quiet_on))
           refine wpQuiet_nil ?_
           intro wq hq
           go_wp2
           exact ⟨⟨k + 1, by omega, by go_num, by rw [HS.out], HX.out.trans hq⟩, by simp [intOf]; omega⟩
         ·have hke : k = (permsB b).length := by omega
          have x3 : decide ((k : Int) < ((permsB b).length : Int)) = false := by simpa using hlt3
          have HNX : Hid (afterB b e l = sumTo (stK b e l) b k) := by unfold Hid; rw [hke]; exact HALL.out.symm
          generalize sumTo (stK b e l) b k = X at *
          clear hke
          have HTK := Lib.hid (take_snoc (rowK_get (e := e) HPL.out))
          have HXK := Lib.hid hx
          have HCC := Lib.hid (fun W (h : Ext wk W) => And.intro (HF.out W (HXOZ.out.trans (HXK.out.trans h))) ((HXOZ.out.trans (HXK.out.trans h)).cell d0))
          cases hal : allowedB b e l
          all_goals
           rw [hal] at HAL HTK
           simp only [Bool.false_eq_true, if_false, if_true] at HTK
           try rw [HNX.out] at HTK
           clear hal hx
           go_upto_region 39 with fail
           refine region_reads (C := fun W => Ext wk W) (by kernel_rfl) (by kernel_rfl) ((Ext.refl wk).drew) ?_
           repeat (first | go_big_quiet_skip | (go_big_quiet_want; go_big_quiet_op; first | go_big_quiet_on | (refine ⟨_, fun W hW => rfl, ?_⟩; go_big_quiet_on)) | (go_big_quiet_want; refine ⟨?_, fun W hW => ?_, ?_⟩; rotate_left; (· (obtain ⟨⟨b0, b1, b2, b3⟩, e0⟩ := HCC.out W hW; go_simp; (first | with_reducible rfl | (go_at_call 108; refine (HAL.out W (HXK.out.trans hW)).mono ?_; rintro e w' ⟨rfl, hx9⟩; constructor; with_reducible rfl; exact hW.trans hx9)))); (try simp only [Act.put, yA, yB, yC]); go_big_quiet_on))
           refine wpQuiet_nil ?_
           intro wq hq
           go_wp2_with (first | (at_builtin; refine wpList_push E_ints rfl _ _ rfl wo.heap.size rfl (owns_ext HOWN.out (HXK.out.trans hq)) rfl rfl (by simp [Value.oneCell']) ?_ HSZ.out.1 HSZ.out.2 (HXZ.out.trans (HXK.out.trans hq)).size; intro g5 cap5 w5 hown5 hext5 _; have HO5 := Lib.hid hown5; have HX5 := Lib.hid (hext5 _ (HXZ.out.trans (HXK.out.trans hq)) (Nat.le_refl _)); clear hown5 hext5 HOWN))
           exact ⟨⟨i + 1, by omega, by go_num, by unfold Hid; rw [HTK.out, List.map_append]; exact HO5.out, HX5.out⟩, by simp [intOf]; omega⟩
      ·have hie : i = (permsB b).length := by omega
       have x2 : decide ((i : Int) < ((permsB b).length : Int)) = false := by simpa using hlt2
       have hown2 := hown.out
       rw [hie, List.take_of_length_le (by rw [rowK_len]; exact Nat.le_refl _)] at hown2
       obtain ⟨ug, uc, rfl, hu1, hu2⟩ := owns_some hown2 HPOS.out
       have hIR : IntsAt wz (.slice (some ⟨ug, 0, none⟩) (permsB b).length uc) (rowK b e) := IntsAt.of_owns (base := wo.heap.size) (e := 3) (by rw [rowK_len]; exact hown2)
       have HIR := Lib.hid hIR
       have HUG := Lib.hid (And.intro hu1 hu2)
       have HXZ := Lib.hid hx
       have HDZ := Lib.hid (HD.out.ext hx)
       have hlv : vsb.length = E := by
        have h := congrArg List.length HVB.out
        simp only [List.length_map, List.length_append, List.length_replicate, List.length_drop, List.length_range] at h
        have := HLT.out
        omega
       have hev : e < vsb.length := by rw [hlv]; exact HLT.out
       have hob := HDZ.out.b.own
       rw [hlv] at hob
       have hcb := hob.cellAt e (by omega)
       rw [List.getElem?_map, List.getElem?_eq_getElem hev, Option.map_some] at hcb
       have hfb := hob.frozenAt e
       generalize (vsb[e]'_).1 = old at hcb
       have HNA : Hid (∀ a n c, (Value.slice (some ⟨ug, 0, none⟩) (permsB b).length uc) = .slice (some a) n c → (Value.slice (some ⟨ag, 0, none⟩) E hc0).ownBlock ≠ some a.block ∧ a.block ≠ bg ∧ a.block < wz.heap.size) := fun a n c he => by
        cases he
        have h1 := HXO.out.size
        exact ⟨fun h => by have h2 : ug < wo.heap.size := (World.ownsRow.lt HD.out.a.own _ h).2; omega, fun h => by have h3 : bg = ug := h.symm; have h2 : ug < wo.heap.size := (World.ownsRow.lt HD.out.b.own ug (by rw [h3] <;> rfl)).2; omega, hu2⟩
       have HNB : Hid (∀ a n c, (Value.slice (some ⟨ug, 0, none⟩) (permsB b).length uc) = .slice (some a) n c → a.block ≠ wl.heap.size) := fun a n c he => by
        cases he
        intro h
        have h3 := (Array.getElem?_eq_some_iff.1 HBX4.out).1
        have h4 : ug = wl.heap.size := h
        omega
       have HBZ := Lib.hid ((hx.block (Array.getElem?_eq_some_iff.1 HBX4.out).1).trans HBX4.out)
       clear hown hown2 hIR hx hu1 hu2 hlv hob hev
       go_wp2
       exact ⟨⟨e, _, by have := HLT.out; omega, rfl, by unfold Hid; rw [List.map_set, HVB.out]; exact rep_set (range_get (f := rowK b) HLT.out), HDZ.out.set HIR.out HNA.out, HOFM.out.set HNB.out, (Touch.setCell (M := fun j => j = bg) (a := ⟨bg, e, none⟩) _ rfl).keep _ _ HBZ.out (fun h => by have := HBG.out.2; omega), (HXO.out.trans HXZ.out).setCell (p := ⟨bg, e, none⟩) HBG.out.1 _⟩, by simp [intOf] <;> omega⟩
end Go.Proofs.YtoohhefegfpipaaGreatDoor
