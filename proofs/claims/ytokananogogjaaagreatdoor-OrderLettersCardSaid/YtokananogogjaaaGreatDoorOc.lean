/- Sample books in memory; isBook. -/
import Derived.Test.YtokananogogjaaaGreatDoorOa
import Derived.Test.YtokananogogjaaaGreatDoorHeld
import Derived.Deep.Cut
import Derived.Deep.CutBlock
import Derived.Deep.DeepCutAuto
import Derived.Test.YtokananogogjaaaGreatDoorOq
namespace Go.Proofs.YtokananogogjaaaGreatDoor
open Go.RowKit
def entryC (x : Int × Int × Int) : List Value := [.int .i64 x.1, .int .i64 x.2.1, .int .i64 x.2.2]
def BookAt (w : World) (v : Value) (b : Book) : Prop := ∃ gv ev, v = .agg #[gv, .int .i64 b.editions, .int .i64 b.moves, ev] ∧ IntsAt w gv b.goods ∧ RowOf entryC w ev b.entries
theorem BookAt.ext {w w' : World} {v : Value} {b : Book} (h : BookAt w v b) (k : Ext w w') : BookAt w' v b := by
 obtain ⟨gv, ev, h1, h2, h3⟩ := h
 exact ⟨gv, ev, h1, h2.ext k, h3.ext k⟩
/-- The parts of a book, as a walk wants them. -/
theorem BookAt.open {w : World} {v : Value} {b : Book} (h : BookAt w v b) : ∃ ga gc ea ec, v = .agg #[.slice ga b.goods.length gc, .int .i64 b.editions, .int .i64 b.moves, .slice ea b.entries.length ec] ∧ b.goods.length ≤ 9223372036854775807 ∧ b.entries.length ≤ 9223372036854775807 := by
 obtain ⟨gv, ev, rfl, h2, h3⟩ := h
 obtain ⟨ga, gc, rfl, g1, g2, _⟩ := h2.open
 obtain ⟨ea, ec, rfl, e1, e2, _⟩ := RowAt.open h3
 exact ⟨ga, gc, ea, ec, rfl, by omega, by omega⟩
/-- The box of a book. -/
abbrev bookBox (gv : Value) (b : Book) (ev : Value) : Obj := .cells #[gv, .int .i64 b.editions, .int .i64 b.moves, ev] 25
/-- A book in a box. -/
def BoxAt (w : World) (k : Nat) (gv : Value) (b : Book) (ev : Value) : Prop := w.cell? ⟨k, 0, none⟩ = some gv ∧ w.cell? ⟨k, 1, none⟩ = some (.int .i64 b.editions) ∧ w.cell? ⟨k, 2, none⟩ = some (.int .i64 b.moves) ∧ w.cell? ⟨k, 3, none⟩ = some ev
theorem BoxAt.ext {w w' : World} {k : Nat} {gv ev : Value} {b : Book} (h : BoxAt w k gv b ev) (x : Ext w w') : BoxAt w' k gv b ev := ⟨x.cell h.1, x.cell h.2.1, x.cell h.2.2.1, x.cell h.2.2.2⟩
theorem BoxAt.new (w : World) (gv : Value) (b : Book) (ev : Value) : BoxAt (w.alloc (bookBox gv b ev)) w.heap.size gv b ev := by
 refine ⟨?_, ?_, ?_, ?_⟩ <;> go_simp
def isEditionW (b : Book) (n : Int) : Bool := inB n 0 (wrap64 (b.editions - 1))
theorem isNumber_any (ga ea : Option Addr) (gc en ec : Nat) (b : Book) (n : Int) (w : World) (hg : b.goods.length ≤ 9223372036854775807) :
  Calls Tryz.prog 47 #[.agg #[.slice ga b.goods.length gc, .int .i64 b.editions, .int .i64 b.moves, .slice ea en ec], .int .i64 n] w fun e w' => e = .returned (.bool (isNumberB b n)) ∧ Ext w w' := by
 go_enter Tryz.func47, Tryz.ntmps47
 go_wp2_with (go_at_call 61; refine (in_any _ _ _ _).mono ?_; rintro e w' ⟨rfl, rfl⟩)
 go_ret
 exact ⟨rfl, (Ext.refl w).alloc _⟩
theorem isEdition_any (ga ea : Option Addr) (gn gc en ec : Nat) (b : Book) (n : Int) (w : World) :
  Calls Tryz.prog 46 #[.agg #[.slice ga gn gc, .int .i64 b.editions, .int .i64 b.moves, .slice ea en ec], .int .i64 n] w fun e w' => e = .returned (.bool (isEditionW b n)) ∧ Ext w w' := by
 unfold isEditionW
 go_enter Tryz.func46, Tryz.ntmps46
 go_wp2_with (go_at_call 61; refine (in_any _ _ _ _).mono ?_; rintro e w' ⟨rfl, rfl⟩)
 go_ret
 exact ⟨rfl, (Ext.refl w).alloc _⟩
theorem isBook1_any (n : Int) (w : World) :
  Calls Tryz.prog 110 #[.agg #[.int .i64 n]] w fun e w' => e = .returned (.bool (!inB n 1 99)) ∧ Ext w w' := by
 go_enter Tryz.func110, Tryz.ntmps110
 go_wp2_with (go_at_call 61; refine (in_any _ _ _ _).mono ?_; rintro e w' ⟨rfl, rfl⟩)
 go_ret
 exact ⟨rfl, (Ext.refl w).alloc _⟩
def badEntryW (b : Book) (x : Int × Int × Int) : Bool := !isEditionW b x.1 || !isNumberB b x.2.1 || !isNumberB b x.2.2
set_option maxRecDepth 100000 in
theorem isBook2_any (x : Int × Int × Int) (k : Nat) (ga ea : Option Addr) (gc en ec : Nat) (b : Book) (w : World) (hg : b.goods.length ≤ 9223372036854775807) (hb : BoxAt w k (.slice ga b.goods.length gc) b (.slice ea en ec)) :
  Calls Tryz.prog 112 #[.agg #[.int .i64 x.1, .int .i64 x.2.1, .int .i64 x.2.2], .pointer (some ⟨k, 0, none⟩)] w fun e w' => e = .returned (.bool (badEntryW b x)) ∧ Ext w w' := by
 obtain ⟨W, hW⟩ : ∃ W, W = w.alloc (.cells #[.int .i64 x.1, .int .i64 x.2.1, .int .i64 x.2.2] 64) := ⟨_, rfl⟩
 have hx0 : Ext w W := by rw [hW]; exact (Ext.refl w).alloc _
 have HX0 := Lib.hid hx0
 have c0 : W.cell? ⟨w.heap.size, 0, none⟩ = some (.int .i64 x.1) := by rw [hW]; go_simp
 have c1 : W.cell? ⟨w.heap.size, 1, none⟩ = some (.int .i64 x.2.1) := by rw [hW]; go_simp
 have c2 : W.cell? ⟨w.heap.size, 2, none⟩ = some (.int .i64 x.2.2) := by rw [hW]; go_simp
 have HF := Lib.hid (fun W1 (h : Ext W W1) => (⟨h.cell c0, h.cell c1, h.cell c2, hb.ext (hx0.trans h)⟩ : _ ∧ _ ∧ _ ∧ _))
 have HE := Lib.hid (fun W1 => isEdition_any ga ea b.goods.length gc en ec b x.1 W1)
 have HN := Lib.hid (fun y W1 => isNumber_any ga ea gc en ec b y W1 hg)
 clear hb c0 c1 c2 hx0 hg
 unfold badEntryW
 cases h1 : isEditionW b x.1 with
 | false =>
  rw [h1] at HE
  clear h1
  go_enter Tryz.func112, Tryz.ntmps112
  go_upto_region 1 with fail
  rw [← hW]
  clear hW
  have hq := Ext.refl W
  obtain ⟨d0, d1, d2, b0, b1, b2, b3⟩ := HF.out _ hq
  go_wp2_with (first | (go_at_call 46; refine (HE.out _).mono ?_; rintro e w1 ⟨rfl, hx1⟩; replace hq := hq.trans hx1; clear hx1 d0 d1 d2 b0 b1 b2 b3; obtain ⟨d0, d1, d2, b0, b1, b2, b3⟩ := HF.out _ hq))
  go_ret
  exact ⟨rfl, HX0.out.trans hq⟩
 | true =>
  rw [h1] at HE
  clear h1
  cases h2 : isNumberB b x.2.1 with
  | false =>
   have H2 := Lib.hid (fun W1 => h2 ▸ HN.out x.2.1 W1)
   clear h2
   go_enter Tryz.func112, Tryz.ntmps112
   go_upto_region 1 with fail
   rw [← hW]
   clear hW
   have hq := Ext.refl W
   obtain ⟨d0, d1, d2, b0, b1, b2, b3⟩ := HF.out _ hq
   go_wp2_with (first | (go_at_call 46; refine (HE.out _).mono ?_; rintro e w1 ⟨rfl, hx1⟩; replace hq := hq.trans hx1; clear hx1 d0 d1 d2 b0 b1 b2 b3; obtain ⟨d0, d1, d2, b0, b1, b2, b3⟩ := HF.out _ hq) | (go_at_call 47; refine (H2.out _).mono ?_; rintro e w1 ⟨rfl, hx1⟩; replace hq := hq.trans hx1; clear hx1 d0 d1 d2 b0 b1 b2 b3; obtain ⟨d0, d1, d2, b0, b1, b2, b3⟩ := HF.out _ hq))
   go_ret
   exact ⟨rfl, HX0.out.trans hq⟩
  | true =>
   have H2 := Lib.hid (fun W1 => h2 ▸ HN.out x.2.1 W1)
   have H3 := Lib.hid (fun W1 => HN.out x.2.2 W1)
   clear h2
   go_enter Tryz.func112, Tryz.ntmps112
   go_upto_region 1 with fail
   rw [← hW]
   clear hW
   have hq := Ext.refl W
   obtain ⟨d0, d1, d2, b0, b1, b2, b3⟩ := HF.out _ hq
   go_wp2_with (first | (go_at_call 46; refine (HE.out _).mono ?_; rintro e w1 ⟨rfl, hx1⟩; replace hq := hq.trans hx1; clear hx1 d0 d1 d2 b0 b1 b2 b3; obtain ⟨d0, d1, d2, b0, b1, b2, b3⟩ := HF.out _ hq) | (go_at_call 47; refine (H2.out _).mono ?_; rintro e w1 ⟨rfl, hx1⟩; clear H2; replace hq := hq.trans hx1; clear hx1 d0 d1 d2 b0 b1 b2 b3; obtain ⟨d0, d1, d2, b0, b1, b2, b3⟩ := HF.out _ hq) | (go_at_call 47; refine (H3.out _).mono ?_; rintro e w1 ⟨rfl, hx1⟩; replace hq := hq.trans hx1; clear hx1 d0 d1 d2 b0 b1 b2 b3; obtain ⟨d0, d1, d2, b0, b1, b2, b3⟩ := HF.out _ hq))
   go_ret
   exact ⟨rfl, HX0.out.trans hq⟩
theorem enters_isBook1 : ∀ args w, (callFunc 110 args).run Tryz.prog w = .ok (.enter 110 args) w := enters_of Tryz.func110 (by kernel_rfl) rfl
theorem enters_isBook2 : ∀ args w, (callFunc 112 args).run Tryz.prog w = .ok (.enter 112 args) w := enters_of Tryz.func112 (by kernel_rfl) rfl
theorem contains_isBook1 (v : Value) (l : List Int) (w : World) (hv : IntsAt w v l) :
  Calls Tryz.prog 109 #[v, .func (.func 110) #[] #[]] w fun e w' => e = .returned (.bool (l.any fun n => !inB n 1 99)) ∧ Ext w w' :=
 containsFuncG (f := fun x : Int => [Value.int .i64 x]) (fun x => .int .i64 x) (fun _ => rfl) v _ _ (fun n => !inB n 1 99) l w hv.row (fun x _ w1 _ => isBook1_any x w1) enters_isBook1
theorem contains_isBook2 (v : Value) (k : Nat) (ga ea : Option Addr) (gc en ec : Nat) (b : Book) (w : World) (hv : RowOf entryC w v b.entries) (hg : b.goods.length ≤ 9223372036854775807) (hb : BoxAt w k (.slice ga b.goods.length gc) b (.slice ea en ec)) :
  Calls Tryz.prog 111 #[v, .func (.func 112) #[] #[.pointer (some ⟨k, 0, none⟩)]] w fun e w' => e = .returned (.bool (b.entries.any (badEntryW b))) ∧ Ext w w' :=
 containsFuncE (f := entryC) (fun x => .int .i64 x.1) (fun x => .int .i64 x.2.1) (fun x => .int .i64 x.2.2) (fun _ => rfl) v _ _ (badEntryW b) b.entries w hv (fun x _ w1 h1 => isBook2_any x k ga ea gc en ec b w1 hg (hb.ext h1)) enters_isBook2
def isBookW (b : Book) : Bool := inB b.goods.length 2 5 && inB b.editions 1 3 && inB b.moves 0 5 && decide ((b.entries.length : Int) ≤ 8) && !(b.goods.any fun l => !inB l 1 99) && !(b.entries.any (badEntryW b))
theorem bookW (b : Book) : isBookW b = isBookB b := by
 unfold isBookW isBookB
 cases h : inB b.editions 1 3 with
 | false => simp
 | true =>
  have he := inB_iff.1 h
  have : badEntryW b = badEntry b := by
   funext x; unfold badEntryW badEntry isEditionW isEditionB
   rw [IntWalk.wrap64_in _ (by omega)]
  rw [this]
set_option maxRecDepth 100000 in
set_option maxHeartbeats 1000000 in
theorem isBook_any (v : Value) (b : Book) (w : World) (hb : BookAt w v b) :
  Calls Tryz.prog 77 #[v] w fun e w' => e = .returned (.bool (isBookB b)) ∧ Ext w w' := by
 rw [← bookW]
 have hb0 := hb
 obtain ⟨ga, gc, ea, ec, rfl, hgl, hel⟩ := hb.open
 obtain ⟨_, _, hv, hg, he⟩ := hb0
 cases hv
 obtain ⟨W, hW⟩ : ∃ W, W = w.alloc (bookBox (.slice ga b.goods.length gc) b (.slice ea b.entries.length ec)) := ⟨_, rfl⟩
 have hx0 : Ext w W := by rw [hW]; exact (Ext.refl w).alloc _
 have HX0 := Lib.hid hx0
 have hbox : BoxAt W w.heap.size (.slice ga b.goods.length gc) b (.slice ea b.entries.length ec) := by rw [hW]; exact BoxAt.new _ _ _ _
 have HF := Lib.hid (fun W1 (h : Ext W W1) => hbox.ext h)
 have HG := Lib.hid (fun W1 (h : Ext W W1) => contains_isBook1 (.slice ga b.goods.length gc) b.goods W1 (hg.ext (hx0.trans h)))
 have HE := Lib.hid (fun W1 (h : Ext W W1) => contains_isBook2 (.slice ea b.entries.length ec) w.heap.size ga ea gc b.entries.length ec b W1 (he.ext (hx0.trans h)) hgl (hbox.ext h))
 clear hb hg he hbox hx0
 go_enter Tryz.func77, Tryz.ntmps77
 go_upto_region 1 with fail
 unfold bookBox at hW
 rw [← hW]
 clear hW
 have hq := Ext.refl W
 obtain ⟨b0, b1, b2, b3⟩ := HF.out _ hq
 have HR : ∀ r, isBookW b = r → Hid (isBookW b = r) := fun r h => Lib.hid h
 cases i1 : inB (b.goods.length : Int) 2 5 with
 | false =>
  have HN : Hid (isBookW b = false) := by unfold Hid isBookW; rw [i1]; rfl
  go_wp2_with (first | (go_at_call 61; refine (in_any _ _ _ _).mono ?_; rintro e w' ⟨rfl, rfl⟩))
  go_ret
  exact ⟨by rw [HN.out] <;> rfl, HX0.out.trans hq⟩
 | true =>
 cases i2 : inB b.editions 1 3 with
 | false =>
  have HN : Hid (isBookW b = false) := by unfold Hid isBookW; rw [i1, i2]; rfl
  go_wp2_with (first | (go_at_call 61; refine (in_any _ _ _ _).mono ?_; rintro e w' ⟨rfl, rfl⟩))
  go_ret
  exact ⟨by rw [HN.out] <;> rfl, HX0.out.trans hq⟩
 | true =>
 cases i3 : inB b.moves 0 5 with
 | false =>
  have HN : Hid (isBookW b = false) := by unfold Hid isBookW; rw [i1, i2, i3]; rfl
  go_wp2_with (first | (go_at_call 61; refine (in_any _ _ _ _).mono ?_; rintro e w' ⟨rfl, rfl⟩))
  go_ret
  exact ⟨by rw [HN.out] <;> rfl, HX0.out.trans hq⟩
 | true =>
 cases i4 : decide ((b.entries.length : Int) ≤ 8) with
 | false =>
  have HN : Hid (isBookW b = false) := by unfold Hid isBookW; rw [i1, i2, i3, i4]; rfl
  go_wp2_with (first | (go_at_call 61; refine (in_any _ _ _ _).mono ?_; rintro e w' ⟨rfl, rfl⟩))
  go_ret
  exact ⟨by rw [HN.out] <;> rfl, HX0.out.trans hq⟩
 | true =>
 cases i5 : (b.goods.any fun l => !inB l 1 99) with
 | true =>
  have HN : Hid (isBookW b = false) := by unfold Hid isBookW; rw [i1, i2, i3, i4, i5]; rfl
  go_wp2_with (first | (go_at_call 61; refine (in_any _ _ _ _).mono ?_; rintro e w' ⟨rfl, rfl⟩) | (go_at_call 109; refine (HG.out _ hq).mono ?_; rintro e w1 ⟨rfl, hx1⟩; replace hq := hq.trans hx1; clear hx1 b0 b1 b2 b3; obtain ⟨b0, b1, b2, b3⟩ := HF.out _ hq))
  go_ret
  exact ⟨by rw [HN.out] <;> rfl, HX0.out.trans hq⟩
 | false =>
 have HN : Hid (isBookW b = !(b.entries.any (badEntryW b))) := by unfold Hid isBookW; rw [i1, i2, i3, i4, i5]; rfl
 go_wp2_with (first | (go_at_call 61; refine (in_any _ _ _ _).mono ?_; rintro e w' ⟨rfl, rfl⟩) | (go_at_call 109; refine (HG.out _ hq).mono ?_; rintro e w1 ⟨rfl, hx1⟩; replace hq := hq.trans hx1; clear hx1 b0 b1 b2 b3; obtain ⟨b0, b1, b2, b3⟩ := HF.out _ hq) | (go_at_call 111; refine (HE.out _ hq).mono ?_; rintro e w1 ⟨rfl, hx1⟩; replace hq := hq.trans hx1; clear hx1 b0 b1 b2 b3; obtain ⟨b0, b1, b2, b3⟩ := HF.out _ hq))
 go_ret
 exact ⟨by rw [HN.out] <;> rfl, HX0.out.trans hq⟩
/-! ### Moves -/
set_option maxRecDepth 100000 in
theorem moves_any (va vb : Value) (xs ys : List Int) (w : World) (ha : IntsAt w va xs) (hb : IntsAt w vb ys) (hl : xs.length = ys.length) :
  Calls Tryz.prog 151 #[va, vb] w fun e w' => e = .returned (.int .i64 (movedL xs ys)) ∧ Ext w w' := by
 obtain ⟨a, c, rfl, h1, h2, h3⟩ := ha.open
 obtain ⟨a', c', rfl, h1', h2', h3'⟩ := hb.open
 have H3 := Lib.hid h3
 have H3' := Lib.hid h3'
 have HL := Lib.hid hl
 clear h3 h3' ha hb hl
 go_enter Tryz.func151, Tryz.ntmps151
 go_wp2
 go_loopw [5, 9] (fun n i wr => ∃ k : Nat, k ≤ xs.length ∧ i = .int .i64 k ∧ n = .int .i64 (movedL (xs.take k) (ys.take k)) ∧ Ext w wr) (fun _ i _ => xs.length - (intOf i).toNat)
 case atStart => exact ⟨0, Nat.zero_le _, rfl, by simp [movedL], Ext.refl _⟩
 case round =>
  obtain ⟨k, hk, rfl, rfl, hx⟩ := hrel
  by_cases hlt : k < xs.length
  ·obtain ⟨b, o, x, rfl, hxk, c0⟩ := H3.out k hlt
   obtain ⟨b', o', y, rfl, hyk, c0'⟩ := H3'.out k (by have := HL.out; omega)
   have hbd := movedL_bd (xs.take k) (ys.take k)
   rw [List.length_take_of_le hk] at hbd
   have hs := movedL_take hxk.out hyk.out
   have q0 := hx.cell c0
   have q1 := hx.cell c0'
   have k2 : k < ys.length := by have := HL.out; omega
   by_cases hxy : x = y
   ·rw [if_pos hxy] at hs
    have e : (x != y) = false := by simp [hxy]
    have HS := Lib.hid hs
    clear hs hxy c0 c0'
    generalize movedL (xs.take k) (ys.take k) = m at *
    go_upto_region 5 with fail
    go_quiet (fail)
    go_wp2
    go_roundw
    case rel => exact ⟨k + 1, by omega, by go_num, by rw [HS.out]; go_num, hx.trans ((Ext.refl _).drewN _)⟩
    case measure => simp [intOf]; omega
   ·rw [if_neg hxy] at hs
    have e : (x != y) = true := by simp [hxy]
    have HS := Lib.hid hs
    clear hs hxy c0 c0'
    generalize movedL (xs.take k) (ys.take k) = m at *
    go_upto_region 5 with fail
    go_quiet (fail)
    go_wp2
    go_roundw
    case rel => exact ⟨k + 1, by omega, by go_num, by rw [HS.out], hx.trans ((Ext.refl _).drewN _)⟩
    case measure => simp [intOf]; omega
  ·have HE : Hid (movedL (xs.take k) (ys.take k) = movedL xs ys) := by
    have := HL.out
    unfold Hid; rw [List.take_of_length_le (by omega), List.take_of_length_le (by omega)]
   rw [HE.out]
   go_wp2
   go_ret
   exact ⟨rfl, hx⟩
end Go.Proofs.YtokananogogjaaaGreatDoor

/- Index, Contains; suits, isMeans, Fits. -/
namespace Go.Proofs.YtokananogogjaaaGreatDoor
open Go.RowKit
def IdxIn (y : Int) (xs : List Int) (w : World) (e : Ending) (w' : World) : Prop := ∃ n : Int, e = .returned (.int .i64 n) ∧ (y ∈ xs → n = idxL y xs) ∧ (y ∉ xs → n = -1) ∧ w = w'
theorem idx_take {y : Int} : ∀ {xs : List Int} {k : Nat}, y ∉ xs.take k → xs[k]? = some y → idxL y xs = k
 | [], k, _, h => by simp at h
 | x :: xs, 0, _, h => by simp at h; subst h; simp [idxL]
 | x :: xs, k + 1, hn, h => by
  rw [List.take_succ_cons, List.mem_cons, not_or] at hn
  unfold idxL
  rw [if_neg (fun e => hn.1 e.symm), idx_take hn.2 (by simpa using h)]; omega
theorem index_any (v : Value) (xs : List Int) (y : Int) (w : World) (hv : IntsAt w v xs) :
  Calls Tryz.prog 54 #[v, .int .i64 y] w (IdxIn y xs w) := by
 obtain ⟨a, c, rfl, h1, h2, h3⟩ := hv.open
 go_enter Tryz.func54, Tryz.ntmps54
 go_wp2
 go_loop [8] (fun i => ∃ k : Nat, k ≤ xs.length ∧ i = .int .i64 k ∧ Hid (y ∉ xs.take k)) (fun i => xs.length - (intOf i).toNat)
 case atStart => exact ⟨0, Nat.zero_le _, rfl, by simp [Hid]⟩
 case round =>
  obtain ⟨k, hk, rfl, hno⟩ := hrel
  by_cases hlt : k < xs.length
  ·obtain ⟨b, o, x, rfl, hxk, hc⟩ := h3 k hlt
   clear h3 hv
   by_cases hxy : y = x
   ·subst hxy
    have hfin : Hid (idxL y xs = k) := idx_take hno.out hxk.out
    have hm : Hid (y ∈ xs) := List.mem_of_getElem? hxk.out
    go_wp2
    go_ret
    exact ⟨_, rfl, fun _ => hfin.out.symm, fun h => (h hm.out).elim, rfl⟩
   ·have hb : (y == x) = false := by simpa using hxy
    have hxy' := Lib.hid hxy
    clear hxy
    go_wp2
    go_round
    case rel => exact ⟨k + 1, by omega, by go_num, by
     unfold Hid; rw [List.take_add_one, hxk.out]; simp only [Option.toList_some, List.mem_append, List.mem_singleton, not_or]; exact ⟨hno.out, hxy'.out⟩⟩
    case measure => simp [intOf]; omega
  ·have hfin : Hid (¬ y ∈ xs) := by
    have h := hno.out; rw [List.take_of_length_le (by omega)] at h; exact h
   go_wp2
   go_ret
   exact ⟨_, rfl, fun h => (hfin.out h).elim, fun _ => rfl, rfl⟩
theorem contains_any (v : Value) (xs : List Int) (y : Int) (w : World) (hv : IntsAt w v xs) :
  Calls Tryz.prog 149 #[v, .int .i64 y] w fun e w' => e = .returned (.bool (decide (y ∈ xs))) ∧ w = w' := by
 by_cases hm : y ∈ xs
 ·have hd : decide (y ∈ xs) = true := by simpa using hm
  have hb := idxL_bd y xs
  rw [hd]
  have HI := Lib.hid (index_any v xs y w hv)
  have HM := Lib.hid hm
  clear hm hd
  go_enter Tryz.func149, Tryz.ntmps149
  go_wp2_with (go_at_call 54; refine (HI.out).mono ?_; rintro e w' ⟨n, rfl, hn, _, rfl⟩; obtain rfl := hn HM.out; clear hn)
  go_ret
  exact ⟨by simp, rfl⟩
 ·have hd : decide (y ∈ xs) = false := by simpa using hm
  rw [hd]
  have HI := Lib.hid (index_any v xs y w hv)
  have HM := Lib.hid hm
  clear hm hd
  go_enter Tryz.func149, Tryz.ntmps149
  go_wp2_with (go_at_call 54; refine (HI.out).mono ?_; rintro e w' ⟨n, rfl, _, hn, rfl⟩; obtain rfl := hn HM.out; clear hn)
  go_ret
  exact ⟨rfl, rfl⟩
/-- The first numbers of a slice. -/
theorem IntsAt.take {w : World} {a : Option Addr} {n c : Nat} {xs : List Int} (h : IntsAt w (.slice a n c) xs) {k : Nat} (hk : k ≤ xs.length) : IntsAt w (.slice a k c) (xs.take k) := by
 obtain ⟨a', c', hv, h1, h2, h0, h3⟩ := h
 cases hv
 refine ⟨a, c, by rw [List.length_take_of_le hk], by rw [List.length_take_of_le hk]; omega, h2, h0, fun j u hj => h3 j u ?_⟩
 rw [← hj, List.getElem?_map, List.getElem?_map, List.getElem?_take]
 split
 ·rfl
 ·rename_i hn
  rw [List.getElem?_map, List.getElem?_take, if_neg hn] at hj; simp at hj
theorem nodup_take {xs : List Int} {k : Nat} {x : Int} (h : xs[k]? = some x) : nodupB (xs.take (k + 1)) = (nodupB (xs.take k) && !decide (x ∈ xs.take k)) := by
 rw [Bool.eq_iff_iff, Bool.and_eq_true, Bool.not_eq_true', decide_eq_false_iff_not, nodupB_iff, nodupB_iff, List.take_add_one, h, Option.toList_some, List.nodup_append]
 constructor
 ·rintro ⟨h1, _, h3⟩; exact ⟨h1, fun hm => h3 x hm x (by simp) rfl⟩
 ·rintro ⟨h1, h2⟩; exact ⟨h1, by simp, fun a ha b hb => by rw [List.mem_singleton] at hb; subst hb; exact fun e => h2 (e ▸ ha)⟩
theorem nodup_not {xs : List Int} {k : Nat} (h : nodupB (xs.take k) = false) : nodupB xs = false := by
 cases hn : nodupB xs with
 | false => rfl
 | true => have := nodupB_iff.2 ((nodupB_iff.1 hn).sublist (List.take_sublist k xs)); rw [h] at this; cases this
set_option maxRecDepth 100000 in
theorem suits1_any (x : Int × Int × Int) (e : Int) (l : List Int) (k m : Nat) (la : Option Addr) (lc : Nat) (w : World) (hk : w.cell? ⟨k, 0, none⟩ = some (.int .i64 e)) (hm : w.cell? ⟨m, 0, none⟩ = some (.slice la l.length lc)) (hl : IntsAt w (.slice la l.length lc) l)
  (h0 : 0 ≤ x.2.1) (h1 : x.2.1 < l.length) :
  Calls Tryz.prog 150 #[.agg #[.int .i64 x.1, .int .i64 x.2.1, .int .i64 x.2.2], .pointer (some ⟨k, 0, none⟩), .pointer (some ⟨m, 0, none⟩)] w fun r w' => r = .returned (.bool (breaks e l x)) ∧ Ext w w' := by
 obtain ⟨x1, x2, x3⟩ := x
 obtain ⟨i, rfl⟩ : ∃ i : Nat, x2 = i := ⟨x2.toNat, by simp only at h0; omega⟩
 simp only at h0 h1 ⊢
 have hi : i < l.length := by omega
 obtain ⟨a', c', hv, _, h2, h3⟩ := hl.open
 cases hv
 obtain ⟨b, o, y, rfl, hy, hc⟩ := h3 i hi
 obtain ⟨W, hW⟩ : ∃ W, W = w.alloc (.cells #[.int .i64 x1, .int .i64 (i : Int), .int .i64 x3] 64) := ⟨_, rfl⟩
 have hx0 : Ext w W := by rw [hW]; exact (Ext.refl w).alloc _
 have HX0 := Lib.hid hx0
 have c0 : W.cell? ⟨w.heap.size, 0, none⟩ = some (.int .i64 x1) := by rw [hW]; go_simp
 have c1 : W.cell? ⟨w.heap.size, 1, none⟩ = some (.int .i64 (i : Int)) := by rw [hW]; go_simp
 have c2 : W.cell? ⟨w.heap.size, 2, none⟩ = some (.int .i64 x3) := by rw [hW]; go_simp
 have c3 := hx0.cell hk
 have c4 := hx0.cell hm
 have c5 := hx0.cell hc
 have HD : Hid (l.getD i 0 = y) := by unfold Hid; rw [List.getD_eq_getElem?_getD, hy.out]; rfl
 have hbr : breaks e l (x1, (i : Int), x3) = (x1 == e && y != x3) := by unfold breaks; simp only [Int.toNat_natCast]; rw [HD.out]
 clear hx0 hk hm hc hl hy HD h3
 rw [hbr]
 clear hbr
 by_cases he : x1 = e
 ·subst he
  have t1 : (x1 == x1) = true := by simp
  rw [t1, Bool.true_and]
  go_enter Tryz.func150, Tryz.ntmps150
  go_upto_region 1 with fail
  rw [← hW]
  clear hW
  go_quiet (fail)
  go_wp2
  go_ret
  exact ⟨rfl, HX0.out.trans ((Ext.refl _).drewN _)⟩
 ·have t1 : (x1 == e) = false := by simpa using he
  rw [t1, Bool.false_and]
  clear he
  go_enter Tryz.func150, Tryz.ntmps150
  go_upto_region 1 with fail
  rw [← hW]
  clear hW
  go_quiet (fail)
  go_wp2
  go_ret
  exact ⟨rfl, HX0.out.trans ((Ext.refl _).drewN _)⟩
theorem enters_suits1 : ∀ args w, (callFunc 150 args).run Tryz.prog w = .ok (.enter 150 args) w := enters_of Tryz.func150 (by kernel_rfl) rfl
theorem contains_suits1 (v : Value) (b : Book) (e : Int) (l : List Int) (k m : Nat) (la : Option Addr) (lc : Nat) (w : World) (hB : BookB b) (hll : l.length = b.goods.length) (hv : RowOf entryC w v b.entries) (hk : w.cell? ⟨k, 0, none⟩ = some (.int .i64 e)) (hm : w.cell? ⟨m, 0, none⟩ = some (.slice la l.length lc)) (hl : IntsAt w (.slice la l.length lc) l) :
  Calls Tryz.prog 111 #[v, .func (.func 150) #[] #[.pointer (some ⟨k, 0, none⟩), .pointer (some ⟨m, 0, none⟩)]] w fun r w' => r = .returned (.bool (b.entries.any (breaks e l))) ∧ Ext w w' :=
 containsFuncE (f := entryC) (fun x => .int .i64 x.1) (fun x => .int .i64 x.2.1) (fun x => .int .i64 x.2.2) (fun _ => rfl) v _ _ (breaks e l) b.entries w hv (fun x hx w1 h1 => suits1_any x e l k m la lc w1 (h1.cell hk) (h1.cell hm) (hl.ext h1) (hB.entries x hx).2.1.1 (by rw [hll]; exact (hB.entries x hx).2.1.2)) enters_suits1
set_option maxRecDepth 100000 in
set_option maxHeartbeats 1000000 in
theorem suits_any (v lv : Value) (b : Book) (e : Int) (l : List Int) (w : World) (hB : BookB b) (hb : BookAt w v b) (hl : IntsAt w lv l) (hll : l.length = b.goods.length) :
  Calls Tryz.prog 116 #[v, .int .i64 e, lv] w fun r w' => r = .returned (.bool (suitsB b e l)) ∧ Ext w w' := by
 have hb0 := hb
 obtain ⟨ga, gc, ea, ec, rfl, hgl, hel⟩ := hb.open
 obtain ⟨_, _, hv, hg, he⟩ := hb0
 cases hv
 obtain ⟨la, lc, rfl, l1, l2, l3⟩ := hl.open
 obtain ⟨W, hW⟩ : ∃ W, W = ((w.alloc (bookBox (.slice ga b.goods.length gc) b (.slice ea b.entries.length ec))).alloc (.cells #[.int .i64 e] 3)).alloc (.cells #[.slice la l.length lc] 42) := ⟨_, rfl⟩
 have hx0 : Ext w W := by rw [hW]; exact (((Ext.refl w).alloc _).alloc _).alloc _
 have HX0 := Lib.hid hx0
 have c1 : W.cell? ⟨w.heap.size, 3, none⟩ = some (.slice ea b.entries.length ec) := by rw [hW]; go_simp
 have c2 : W.cell? ⟨w.heap.size + 1, 0, none⟩ = some (.int .i64 e) := by rw [hW]; go_simp
 have c3 : W.cell? ⟨w.heap.size + 2, 0, none⟩ = some (.slice la l.length lc) := by rw [hW]; go_simp
 have HF := Lib.hid (fun W1 (h : Ext W W1) => (⟨h.cell c1, h.cell c2, h.cell c3⟩ : _ ∧ _ ∧ _))
 have HC := Lib.hid (fun W1 (h : Ext W W1) => contains_suits1 (.slice ea b.entries.length ec) b e l (w.heap.size + 1) (w.heap.size + 2) la lc W1 hB hll (he.ext (hx0.trans h)) (h.cell c2) (h.cell c3) (hl.ext (hx0.trans h)))
 have HK := Lib.hid (fun (k : Nat) (hk : k ≤ l.length) W1 (h : Ext W W1) (y : Int) => contains_any (.slice la k lc) (l.take k) y W1 ((hl.ext (hx0.trans h)).take hk))
 have H3 := Lib.hid (fun k hk W1 (h : Ext W W1) => (by obtain ⟨b, o, x, ha, hx, hc⟩ := l3 k hk; exact ⟨b, o, x, ha, hx, (hx0.trans h).cell hc⟩ : ∃ b o x, la = some ⟨b, o, none⟩ ∧ Hid (l[k]? = some x) ∧ W1.cell? ⟨b, o + k, none⟩ = some (.int .i64 x)))
 clear hb hg he hl l3 hx0 c1 c2 c3 hll hB
 go_enter Tryz.func116, Tryz.ntmps116
 go_upto_region 1 with fail
 unfold bookBox at hW
 rw [← hW]
 clear hW
 have hq := Ext.refl W
 obtain ⟨c1, c2, c3⟩ := HF.out _ hq
 go_wp2
 go_loopw [11] (fun i wr => ∃ k : Nat, k ≤ l.length ∧ i = .int .i64 k ∧ Hid (nodupB (l.take k) = true) ∧ Ext W wr) (fun i _ => l.length - (intOf i).toNat)
 case atStart => exact ⟨0, Nat.zero_le _, rfl, by simp [Hid, nodupB], Ext.refl _⟩
 case round =>
  obtain ⟨k, hk, rfl, hno, hq⟩ := hrel
  clear c1 c2 c3
  obtain ⟨c1, c2, c3⟩ := HF.out _ hq
  by_cases hlt : k < l.length
  ·obtain ⟨bb, o, x, rfl, hxk, hc⟩ := H3.out k hlt _ hq
   have HS := Lib.hid (nodup_take hxk.out)
   have HKK := Lib.hid (HK.out k (by omega) _ hq x)
   have hk2 : (k : Int) ≤ (lc : Int) := by omega
   clear H3
   cases hd : decide (x ∈ l.take k) with
   | true =>
    rw [hd] at HKK
    have HN : Hid (suitsB b e l = false) := by
     unfold Hid suitsB
     rw [nodup_not (k := k + 1) (by rw [HS.out, hd]; simp)]; rfl
    clear hd
    go_wp2_with (go_at_call 149; refine (HKK.out).mono ?_; rintro r w' ⟨rfl, rfl⟩)
    go_ret
    exact ⟨by rw [HN.out] <;> rfl, HX0.out.trans hq⟩
   | false =>
    rw [hd] at HKK
    have HN : Hid (nodupB (l.take (k + 1)) = true) := by unfold Hid; rw [HS.out, hd, hno.out]; rfl
    clear hd
    go_wp2_with (go_at_call 149; refine (HKK.out).mono ?_; rintro r w' ⟨rfl, rfl⟩)
    go_roundw
    case rel => exact ⟨k + 1, by omega, by go_num, HN, hq⟩
    case measure => simp [intOf]; omega
  ·have HN : Hid (suitsB b e l = !(b.entries.any (breaks e l))) := by
    have h := hno.out
    rw [List.take_of_length_le (by omega)] at h
    unfold Hid suitsB allowedB; rw [h]; rfl
   go_wp2_with (go_at_call 111; refine (HC.out _ hq).mono ?_; rintro r w1 ⟨rfl, hx1⟩)
   go_ret
   exact ⟨by rw [HN.out] <;> rfl, HX0.out.trans (hq.trans hx1)⟩
end Go.Proofs.YtokananogogjaaaGreatDoor

/- Rows of ints; isMeans, Fits. -/
namespace Go.Proofs.YtokananogogjaaaGreatDoor
open Go.RowKit
/-- Rows of ints. -/
def IntRowsAt (w : World) (v : Value) (xss : List (List Int)) : Prop := ∃ xs : List (Value × List Int), xs.map Prod.snd = xss ∧ RowOf (fun x => [x.1]) w v xs ∧ ∀ x, x ∈ xs → IntsAt w x.1 x.2
theorem IntRowsAt.ext {w w' : World} {v : Value} {xss : List (List Int)} (h : IntRowsAt w v xss) (k : Ext w w') : IntRowsAt w' v xss := by
 obtain ⟨xs, h1, h2, h3⟩ := h
 exact ⟨xs, h1, h2.ext k, fun x hx => IntsAt.ext (h3 x hx) k⟩
theorem IntRowsAt.open {w : World} {v : Value} {xss : List (List Int)} (h : IntRowsAt w v xss) : ∃ a c, v = .slice a xss.length c ∧ xss.length ≤ c ∧ c ≤ 9223372036854775807 ∧
  ∀ i, i < xss.length → ∃ b o x ra rc, a = some ⟨b, o, none⟩ ∧ Hid (xss[i]? = some x) ∧ w.cell? ⟨b, o + i, none⟩ = some (.slice ra x.length rc) ∧ IntsAt w (.slice ra x.length rc) x ∧ x.length ≤ rc ∧ rc ≤ 9223372036854775807 := by
 obtain ⟨xs, rfl, h2, h3⟩ := h
 obtain ⟨a, c, rfl, h4, h5, h6⟩ := RowOf.open1 (f0 := fun x : Value × List Int => x.1) (fun _ => rfl) h2
 refine ⟨a, c, by simp, by simpa using h4, h5, fun i hi => ?_⟩
 obtain ⟨b, o, x, ha, hx, hc⟩ := h6 i (by simpa using hi)
 have hr := h3 x (List.mem_of_getElem? hx.out)
 obtain ⟨ra, rc, he, h7, h8, _⟩ := hr.open
 rw [he] at hr
 exact ⟨b, o, x.2, ra, rc, ha, by unfold Hid; rw [List.getElem?_map, hx.out]; rfl, by rw [hc, he], hr, h7, h8⟩
end Go.Proofs.YtokananogogjaaaGreatDoor

/- has, sum, Clone. -/
namespace Go.Proofs.YtokananogogjaaaGreatDoor
open Go.RowKit
theorem and_i64 (a b : Nat) (ha : a < 4611686018427387904) (hb : b < 4611686018427387904) : bits .and .i64 (a : Int) (b : Int) = ((a &&& b : Nat) : Int) := by
 have hx : a &&& b ≤ a := Nat.and_le_left
 have h1 : (BitVec.ofInt 64 (a : Int)).toNat = a := by
  rw [BitVec.ofInt_natCast, BitVec.toNat_ofNat]; exact Nat.mod_eq_of_lt (by omega)
 have h2 : (BitVec.ofInt 64 (b : Int)).toNat = b := by
  rw [BitVec.ofInt_natCast, BitVec.toNat_ofNat]; exact Nat.mod_eq_of_lt (by omega)
 show IntKind.i64.wrap ((BitVec.ofInt 64 (a : Int) &&& BitVec.ofInt 64 (b : Int)).toNat : Int) = _
 rw [BitVec.toNat_and, h1, h2]
 refine IntWalk.i64_in _ ?_
 omega
theorem has_bits (s n : Nat) (hs : s < 4611686018427387904) : (bits .and .i64 ((s : Int) / 2 ^ n) 1 == 1) = s.testBit n := by
 have hd : s / 2 ^ n ≤ s := Nat.div_le_self _ _
 have e : ((s : Int) / 2 ^ n) = ((s / 2 ^ n : Nat) : Int) := by simp
 rw [e, show (1 : Int) = ((1 : Nat) : Int) from rfl, and_i64 _ _ (by omega) (by omega), Nat.testBit_eq_decide_div_mod_eq, Nat.and_one_is_mod, Bool.eq_iff_iff]
 simp only [beq_iff_eq, decide_eq_true_eq]
 omega
theorem has_any (s n : Nat) (w : World) (hs : s < 4611686018427387904) (hn : n < 64) :
 Calls Tryz.prog 86 #[.int .i64 s, .int .i64 n] w fun e w' => e = .returned (.bool (s.testBit n)) ∧ w = w' := by
 go_enter Tryz.func86, Tryz.ntmps86
 go_wp2
 go_ret
 exact ⟨by rw [← has_bits s n hs]; rfl, rfl⟩
theorem info_parts {P : Program} {e size bytes : Nat} {z : Value} (h : (P.info? e).map (fun i => (i.zero, i.size, i.bytes)) = some (some z, size, bytes)) : ∃ i, P.info? e = some i ∧ i.zero = some z ∧ i.size = size ∧ i.bytes = bytes := by
 cases hi : P.info? e with
 | none => rw [hi] at h; cases h
 | some i => rw [hi] at h; simp at h; exact ⟨i, rfl, h.1, h.2.1, h.2.2⟩
theorem E_ints : Elem Tryz.prog 42 3 1 8 (.int .i64 0) := by
 obtain ⟨i, h1, h2, h3, h4⟩ := info_parts (P := Tryz.prog) (e := 3) (z := .int .i64 0) (size := 1) (bytes := 8) (by kernel_rfl)
 exact ⟨Tryz.underlying42, ⟨i, h1, h2, h3, h4⟩, rfl, by decide⟩
theorem ints_one (xs : List Int) : ∀ u ∈ xs.map (Value.int .i64), u.oneCell' = true := by
 intro u hu
 obtain ⟨x, _, rfl⟩ := List.mem_map.1 hu
 rfl
theorem IntsAt.of_owns {w : World} {base e : Nat} {v : Value} {xs : List Int} (h : w.ownsRow base e 1 v xs.length (xs.map (.int .i64))) : IntsAt w v xs := RowAt.of_owns h
theorem sum_take {xs : List Int} {k : Nat} {x : Int} (hx : xs[k]? = some x) : (xs.take (k + 1)).sum = (xs.take k).sum + x := by
 rw [List.take_add_one, hx]; simp
theorem sum_any (v : Value) (xs : List Int) (w : World) (hv : IntsAt w v xs) (hb : ∀ k, 0 ≤ (xs.take k).sum ∧ (xs.take k).sum ≤ 1000000000000000) (hb2 : ∀ x, x ∈ xs → 0 ≤ x ∧ x ≤ 1000000000000000) :
  Calls Tryz.prog 69 #[v] w fun e w' => e = .returned (.int .i64 xs.sum) ∧ w = w' := by
 obtain ⟨a, c, rfl, h1, h2, h3⟩ := hv.open
 go_enter Tryz.func69, Tryz.ntmps69
 go_wp2
 go_loop [3, 8] (fun s i => ∃ k : Nat, k ≤ xs.length ∧ i = .int .i64 k ∧ s = .int .i64 (xs.take k).sum) (fun _ i => xs.length - (intOf i).toNat)
 case atStart => exact ⟨0, Nat.zero_le _, rfl, by simp⟩
 case round =>
  obtain ⟨k, hk, rfl, rfl⟩ := hrel
  by_cases hlt : k < xs.length
  ·obtain ⟨b, o, x, rfl, hxk, hc⟩ := h3 k hlt
   clear h3
   have hs := Lib.hid (sum_take hxk.out)
   have hbk := hb k
   have hbx := hb2 x (List.mem_of_getElem? hxk.out)
   clear hb hb2
   go_wp2
   go_round
   case rel => exact ⟨k + 1, by omega, by go_num, by rw [hs.out]⟩
   case measure => simp [intOf]; omega
  ·go_wp2
   go_ret
   exact ⟨by first | rfl | (rw [List.take_of_length_le (by omega)]; rfl), rfl⟩
theorem sums_bd {B : Int} {xs : List Int} (h : ∀ x, x ∈ xs → 0 ≤ x ∧ x ≤ B) (hB : 0 ≤ B) : ∀ k : Nat, 0 ≤ (xs.take k).sum ∧ (xs.take k).sum ≤ B * k
 | 0 => by simp
 | k + 1 => by
  have ih := sums_bd h hB k
  have e1 : B * ((k + 1 : Nat) : Int) = B * k + B := by rw [Int.natCast_add, Int.mul_add]; simp
  cases hx : xs[k]? with
  | none =>
   have e : xs.take (k + 1) = xs.take k := by rw [List.take_add_one, hx]; simp
   rw [e]; omega
  | some x =>
   have hb := h x (List.mem_of_getElem? hx)
   rw [sum_take hx]; omega
/-! ### Clone at integers -/
def ClonePost (w : World) (xs : List Int) (e : Ending) (w' : World) : Prop := ∃ v, e = .returned v ∧ w'.ownsRow w.heap.size 3 1 v xs.length (xs.map (.int .i64)) ∧ Ext w w'
set_option maxRecDepth 100000 in
theorem clone_any (v : Value) (xs : List Int) (w : World) (hv : IntsAt w v xs) (hl : xs.length ≤ 1000000) :
 Calls Tryz.prog 65 #[v] w (ClonePost w xs) := by
 have hv' := hv.ext ((Ext.refl w).alloc (.cells #[] 3))
 obtain ⟨a, c, rfl, h1, h2, h0, _⟩ := hv
 have heq := fun w1 => Lib.run_eql_slice_nil (P := Tryz.prog) w1 42 3 a xs.length c 0 0 Tryz.underlying42
 cases a with
 | none =>
  have hc := h0 rfl
  have hx : xs = [] := by
   cases xs with
   | nil => rfl
   | cons x l => simp at h1; omega
  subst hx
  subst hc
  have hfin : ClonePost w [] (.returned (.slice none 0 0)) w := ⟨_, rfl, World.ownsRow_nil _ _ _ _, Ext.refl _⟩
  have HF := Lib.hid hfin
  clear hfin hv' heq
  have heq := fun w1 => Lib.run_eql_slice_nil (P := Tryz.prog) w1 42 3 none 0 0 0 0 Tryz.underlying42
  go_enter Tryz.func65, Tryz.ntmps65
  go_wp2
  go_ret
  exact HF.out
 | some ad =>
  have hown := World.ownsRow_lit (base := w.heap.size) (e := 3) (size := 1) w #[] 0 (Nat.le_refl _) (Nat.zero_le _) rfl
  have hlen : ((xs.map (Value.int .i64)).length) = xs.length * 1 := by simp
  have HV := Lib.hid hv'
  have HO := Lib.hid hown
  clear hv' hown
  go_enter Tryz.func65, Tryz.ntmps65
  go_wp2_with (at_builtin; refine wpList_append_row E_ints rfl _ _ rfl w.heap.size rfl HO.out rfl HV.out hlen (ints_one xs) ?_ ?c1 ?c2 ?c3; intro v' w2 hown' hgrow _)
  case c1 => unfold maxLen; omega
  case c2 => omega
  try (case c3 => simp)
  go_ret
  exact ⟨_, rfl, by simpa using hown', Ext.grown ((Ext.refl w).alloc _) hgrow (fun k hk => by cases hk; exact Nat.le_refl _)⟩
end Go.Proofs.YtokananogogjaaaGreatDoor
