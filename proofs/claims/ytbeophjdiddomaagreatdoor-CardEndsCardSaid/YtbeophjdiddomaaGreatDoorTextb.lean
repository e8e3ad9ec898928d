/- Texts: what the lines of a round say, and the contracts of line's parts. -/
import Derived.Test.YtbeophjdiddomaaGreatDoorTlay
import Derived.Test.YtbeophjdiddomaaGreatDoorWeigh
import Derived.Test.YtbeophjdiddomaaGreatDoorPush
import Derived.Shelf.Strconv.Itoa3
import Derived.Shelf.Strings.OnBuilder
import Derived.Lib.AppendIntMem
import Derived.Lib.ItoaLen
import Derived.Test.YtbeophjdiddomaaGreatDoorRefa
import Derived.Deep.RegionHeld3
import Derived.IntWalk
namespace Go.Proofs.YtbeophjdiddomaaGreatDoor
open Go.RowKit

/-! ### In plain Lean -/
abbrev strV (l : List UInt8) : Value := .string ⟨l.toArray⟩
def numsT (ns : List Int) : List UInt8 := ns.flatMap fun n => 32 :: Lib.itoa n
def wRound : List UInt8 := [114, 111, 117, 110, 100]
def wWeigh : List UInt8 := [119, 101, 105, 103, 104]
def wHouse : List UInt8 := [104, 111, 117, 115, 101]
def wAll : List UInt8 := [97, 108, 108]
def lineT (word : List UInt8) (ns : List Int) : List UInt8 := word ++ numsT ns
def House.nums (h : House) : List Int := [h.out, h.cards, h.full, h.loose, h.miss, h.weighed]
def linesT (r : Round) : List (List UInt8) := lineT wRound [r.per, r.houses.length] :: lineT wWeigh [r.lo, r.hi, r.card, r.slack] :: r.houses.map (fun h => lineT wHouse h.nums) ++ [lineT wAll [r.all, r.off]]
def lineSum (i : Nat) (l : List UInt8) : Nat → Int
  | 0 => 0
  | k + 1 => lineSum i l k + ((l.getD k 0).toNat : Int) * ((k : Int) + 1) * ((i : Int) + 1)
def linesSum (ls : List (List UInt8)) : Nat → Int
  | 0 => 0
  | i + 1 => linesSum ls i + lineSum i (ls.getD i []) (ls.getD i []).length
def checkT (ls : List (List UInt8)) : Int := linesSum ls ls.length % 139
def endT (c : Int) : List UInt8 := [10, 101, 110, 100, 32] ++ Lib.itoa (c / 100) ++ Lib.itoa (c / 10 % 10) ++ Lib.itoa (c % 10) ++ [10]
def textT (r : Round) : List UInt8 := Lib.join (linesT r) [10] ++ endT (checkT (linesT r))

/-! ### The library's functions -/
def TabOk (w : World) : Prop := Lib.TabIs Tryz.prog w "internal/strconv.uint64pow10" .u64 Lib.pow10Tab
theorem TabOk.ext {w w' : World} (h : TabOk w) (k : Ext w w') : TabOk w' := Lib.tabBelow_of_tabIs h w' k
theorem itoa_any (n : Int) (h0 : -9223372036854775808 ≤ n) (h1 : n ≤ 9223372036854775807) (w : World) (ht : TabOk w) :
    Calls Tryz.prog 87 #[.int .i64 n] w fun e w' => e = .returned (strV (Lib.itoa n)) ∧ Ext w w' :=
  (Any.strconv_Itoa Tryz.itoa n h0 h1 w ht).mono fun e w' h => by
    obtain ⟨he, k, os, rfl⟩ := h
    exact ⟨he, Lib.below_grow _ _ (Nat.le_refl _) _ _⟩
theorem joinX : Builder.Extra Tryz.prog Tryz.joinS_ren where
  sizeBuilder := by kernel_rfl
  liesBuilder := by kernel_rfl
  t5 := Tryz.underlying5
  a5 := Tryz.isAgg5
  z5 := Tryz.sizeOf5
  v5 := Tryz.zeroValue5
  infoByte := by kernel_rfl
  cellsByte := by kernel_rfl
  sizeByte := by kernel_rfl
  neB5 := by decide
/-- A slice of strings. -/
def StrsAt (w : World) (v : Value) (ls : List (List UInt8)) : Prop := RowAt w v ls.length (ls.map strV)
theorem StrsAt.ext {w w' : World} {v : Value} {ls : List (List UInt8)} (h : StrsAt w v ls) (k : Ext w w') : StrsAt w' v ls := RowAt.ext h k
theorem join_any (v : Value) (ls : List (List UInt8)) (sep : List UInt8) (w : World) (hv : StrsAt w v ls) (hne : ls ≠ []) (hn : ls.length ≤ 1000) (hlen : (Lib.join ls sep).length ≤ 2000000) :
    Calls Tryz.prog 86 #[v, strV sep] w fun e w' => e = .returned (strV (Lib.join ls sep)) ∧ Ext w w' := by
  obtain ⟨a, c, rfl, h1, h2, h3⟩ := RowAt.open hv
  have hpos : 0 < ls.length := List.length_pos_iff.2 hne
  obtain ⟨bk, o, rfl, hc0⟩ := h3 0 (strV (ls[0])) (by simp [hpos])
  have hm : (ls.map fun l => (⟨l.toArray⟩ : ByteArray)).map (·.data.toList) = ls := by rw [List.map_map]; exact List.map_id' ls
  have := Any.strings_Join Tryz.joinS joinX bk o c (ls.map fun l => ⟨l.toArray⟩) ⟨sep.toArray⟩ w (fun j x hx => by
      rw [List.getElem?_map] at hx
      cases hj : ls[j]? with
      | none => rw [hj] at hx; cases hx
      | some l =>
        rw [hj] at hx; cases hx
        obtain ⟨b', o', e, hc⟩ := h3 j (strV l) (by rw [List.getElem?_map, hj]; rfl)
        cases e; exact hc) (lt_of_cell hc0) (by rw [List.length_map]; omega) (by rw [List.length_map]; exact h1) (by rw [hm]; show (Lib.join ls sep).length ≤ _; omega)
  rw [hm, List.length_map] at this
  exact this
theorem names_any (w : World) : Calls Tryz.prog 112 #[] w fun e w' => e = .returned (.agg #[strV wRound, strV wWeigh, strV wHouse, strV wAll]) ∧ Ext w w' := by
  go_enter Tryz.func112, Tryz.ntmps112
  go_wp2
  exact bodyPost_ret (v := .agg #[strV wRound, strV wWeigh, strV wHouse, strV wAll]) (by simp [results, Tryz.f112, go_sem, wRound, wWeigh, wHouse, wAll]) rfl ⟨rfl, (Ext.refl _).alloc _⟩
def headV (r : Round) (hv : Value) : Value := .agg #[.int .i64 r.per, .int .i64 r.lo, .int .i64 r.hi, .int .i64 r.card, .int .i64 r.slack, hv, .int .i64 r.all, .int .i64 r.off]
theorem head_any (r : Round) (a : Option Addr) (n c : Nat) (w : World) : Calls Tryz.prog 192 #[headV r (.slice a n c)] w fun e w' => ∃ b, e = .returned (.slice (some ⟨b, 0, none⟩) 2 2) ∧ Ext w w' ∧ IntsAt w' (.slice (some ⟨b, 0, none⟩) 2 2) [r.per, n] := by
  unfold headV
  go_enter Tryz.func192, Tryz.ntmps192
  go_wp2
  go_ret
  refine ⟨_, rfl, ((Ext.refl w).alloc _).alloc _, ?_⟩
  have := RowAt.new (w.alloc (.cells #[.int .i64 r.per, .int .i64 r.lo, .int .i64 r.hi, .int .i64 r.card, .int .i64 r.slack, .slice a n c, .int .i64 r.all, .int .i64 r.off] 139)) #[.int .i64 r.per, .int .i64 (n : Int)] 3 2 2 (Nat.le_refl _) (by unfold maxLen; omega)
  rwa [World.size_alloc] at this
/-! ### The lines -/
abbrev z8 : Value := .agg #[.int .i64 0, .int .i64 0, .int .i64 0, .int .i64 0, .int .i64 0, .slice none 0 0, .int .i64 0, .int .i64 0]
abbrev z6 : Value := .agg #[.int .i64 0, .int .i64 0, .int .i64 0, .int .i64 0, .int .i64 0, .int .i64 0]
theorem numsT_len {ns : List Int} (h : ∀ y, y ∈ ns → 0 ≤ y ∧ y ≤ 2000000) : (numsT ns).length ≤ 22 * ns.length := by
  induction ns with
  | nil => simp [numsT]
  | cons x ns ih =>
    have h1 := h x (by simp)
    have h2 := Lib.itoa_length_le x (by omega) (by omega)
    have h3 := ih (fun y hy => h y (by simp [hy]))
    have h4 : numsT (x :: ns) = (32 :: Lib.itoa x) ++ numsT ns := by simp [numsT]
    rw [h4, List.length_append, List.length_cons, List.length_cons]; omega
theorem lineT_len {word : List UInt8} {ns : List Int} (h : ∀ y, y ∈ ns → 0 ≤ y ∧ y ≤ 2000000) : (lineT word ns).length ≤ word.length + 22 * ns.length := by
  unfold lineT; rw [List.length_append]; have := numsT_len h; omega
theorem lineT_step (word : List UInt8) {ns : List Int} {k : Nat} {y : Int} (hy : ns[k]? = some y) : lineT word (ns.take (k + 1)) = lineT word (ns.take k) ++ (32 :: Lib.itoa y) := by
  unfold lineT numsT; rw [List.take_add_one, hy]; simp
theorem str_step (a b : List UInt8) : Value.string (({ data := a.toArray } : ByteArray) ++ (({ data := #[32] } : ByteArray) ++ ({ data := b.toArray } : ByteArray))) = strV (a ++ (32 :: b)) := by
  have e : ∀ x y : List UInt8, (({ data := x.toArray } : ByteArray) ++ ({ data := y.toArray } : ByteArray)) = { data := (x ++ y).toArray } := fun x y => by
    apply ByteArray.ext; simp
  have e2 := e [32] b
  rw [show (({ data := #[32] } : ByteArray) ++ ({ data := b.toArray } : ByteArray)) = { data := ([32] ++ b).toArray } from e2, e]; rfl
theorem ints_cell {W : World} {b n c : Nat} {ns : List Int} (h : IntsAt W (.slice (some ⟨b, 0, none⟩) n c) ns) {k : Nat} {y : Int} (hy : ns[k]? = some y) : W.cell? ⟨b, k, none⟩ = some (.int .i64 y) := by
  obtain ⟨a', c', hv, _, _, _, h3⟩ := h
  obtain ⟨b', o', e, hc⟩ := h3 k (.int .i64 y) (by rw [List.getElem?_map, hy]; rfl)
  injection hv with h1 h2 h3
  rw [e] at h1
  cases h1
  rw [Nat.zero_add] at hc
  exact hc
theorem nm_at0 (w : World) : (Instr.index 169 (.agg #[strV wRound, strV wWeigh, strV wHouse, strV wAll]) (.int .i64 0)).run Tryz.prog w = .ok (strV wRound) w := by kernel_rfl
theorem nm_at1 (w : World) : (Instr.index 169 (.agg #[strV wRound, strV wWeigh, strV wHouse, strV wAll]) (.int .i64 1)).run Tryz.prog w = .ok (strV wWeigh) w := by kernel_rfl
theorem nm_at2 (w : World) : (Instr.index 169 (.agg #[strV wRound, strV wWeigh, strV wHouse, strV wAll]) (.int .i64 2)).run Tryz.prog w = .ok (strV wHouse) w := by kernel_rfl
theorem nm_at3 (w : World) : (Instr.index 169 (.agg #[strV wRound, strV wWeigh, strV wHouse, strV wAll]) (.int .i64 3)).run Tryz.prog w = .ok (strV wAll) w := by kernel_rfl
theorem ta_head1 (p : Value) (w : World) : (Instr.typeAssert (.iface 139 p) 168 140 true).run Tryz.prog w = .ok (.tuple #[z8, .bool false]) w := by kernel_rfl
theorem ta_head2 (p : Value) (w : World) : (Instr.typeAssert (.iface 139 p) 168 142 true).run Tryz.prog w = .ok (.tuple #[z6, .bool false]) w := by kernel_rfl
theorem ta_head3 (p : Value) (w : World) : (Instr.typeAssert (.iface 139 p) 168 143 true).run Tryz.prog w = .ok (.tuple #[z8, .bool false]) w := by kernel_rfl
theorem mt_head (p : Value) (w : World) : (method 352 139 p "nacre/card.numbers").run Tryz.prog w = .ok (192, p) w := by kernel_rfl
set_option maxRecDepth 100000 in
set_option maxHeartbeats 2000000 in
theorem line_head (r : Round) (a : Option Addr) (n c : Nat) (w : World) (ht : TabOk w) (hb : ∀ y, y ∈ [r.per, (n : Int)] → 0 ≤ y ∧ y ≤ 2000000) : Calls Tryz.prog 85 #[.iface 139 (headV r (.slice a n c))] w fun e w' => e = .returned (strV (lineT wRound [r.per, (n : Int)])) ∧ Ext w w' := by
  have HN := Lib.hid (fun w1 => head_any r a n c w1)
  obtain ⟨ns, hns⟩ : ∃ ns, [r.per, (n : Int)] = ns := ⟨_, rfl⟩
  have hlen : ns.length = 2 := by rw [← hns]; rfl
  rw [hns] at hb ⊢
  rw [hns] at HN
  unfold headV at *
  have t1 := ta_head1
  have t2 := ta_head2
  have t3 := ta_head3
  have t5 := nm_at0
  have t6 := mt_head
  have HB := Lib.hid hb
  have HLN := Lib.hid hlen
  have HNS := Lib.hid hns
  clear hb hlen hns
  go_enter Tryz.func85, Tryz.ntmps85
  go_wp2_with (first
    | (go_at_call 112; refine (names_any _).mono ?_; rintro e w1 ⟨rfl, hx1⟩)
    | (go_at_call 192; refine (HN.out _).mono ?_; rintro e w2 ⟨b, rfl, hx2, hI⟩))
  have H3 := Lib.hid (fun (k : Nat) (y : Int) (hy : ns[k]? = some y) => ints_cell hI hy)
  have hx12 := hx1.trans hx2
  clear hI t1 t2 t3 t5 t6
  go_loopw [4, 23] (fun sv i wr => ∃ k : Nat, k ≤ 2 ∧ i = .int .i64 k ∧ sv = strV (lineT wRound (ns.take k)) ∧ Ext w wr ∧ Ext w2 wr) (fun _ i _ => 2 - (intOf i).toNat)
  case atStart => exact ⟨0, Nat.zero_le _, rfl, by simp [lineT, numsT], hx12, Ext.refl _⟩
  case round =>
    obtain ⟨k, hk, rfl, rfl, hx, hx2'⟩ := hrel
    by_cases hlt : k < 2
    · obtain ⟨y, hy⟩ : ∃ y, Hid (ns[k]? = some y) := ⟨_, List.getElem?_eq_getElem (show k < ns.length by rw [HLN.out]; exact hlt)⟩
      have hc := H3.out k y hy.out
      obtain ⟨y0, y1⟩ := HB.out y (List.mem_of_getElem? hy.out)
      have hc' := hx2'.cell hc
      have x2 : decide ((k : Int) < 2) = true := by simp; omega
      have hl1 : (lineT wRound (ns.take k)).length ≤ 1000 := by
        have := lineT_len (word := wRound) (ns := ns.take k) (fun y hy => HB.out y (List.mem_of_mem_take hy))
        have h2 : (ns.take k).length ≤ 2 := by rw [List.length_take, HLN.out]; omega
        have h3 : (wRound).length ≤ 5 := by decide
        omega
      have hl2 := Lib.itoa_length_le y (by omega) (by omega)
      have hd1 : ¬ 9223372036854775807 < 1 + (Lib.itoa y).length := by omega
      have hd2 : ¬ 9223372036854775807 < (lineT wRound (ns.take k)).length + (1 + (Lib.itoa y).length) := by omega
      have HIT := Lib.hid (fun w1 (hx : Ext w w1) => itoa_any y (by omega) (by omega) w1 (ht.ext hx))
      have HST := Lib.hid (lineT_step wRound hy.out)
      clear hc hl1 hl2
      go_wp2_with (go_at_call 87; refine (HIT.out _ hx).mono ?_; rintro e w3 ⟨rfl, hx3⟩)
      exact ⟨⟨k + 1, by omega, by go_num, by rw [HST.out]; exact str_step _ _, hx.trans hx3, hx2'.trans hx3⟩, by simp [intOf]; omega⟩
    · have hke : k = 2 := by omega
      have x2 : decide ((k : Int) < 2) = false := by simp; omega
      have ht2 : ns.take k = ns := List.take_of_length_le (by rw [HLN.out]; omega)
      have HT := Lib.hid ht2
      clear ht2 hke
      go_wp2
      go_ret
      exact ⟨by rw [HT.out]; rfl, hx⟩
theorem scales_any (r : Round) (a : Option Addr) (n c : Nat) (w : World) : Calls Tryz.prog 193 #[headV r (.slice a n c)] w fun e w' => ∃ b, e = .returned (.slice (some ⟨b, 0, none⟩) 4 4) ∧ Ext w w' ∧ IntsAt w' (.slice (some ⟨b, 0, none⟩) 4 4) [r.lo, r.hi, r.card, r.slack] := by
  unfold headV
  go_enter Tryz.func193, Tryz.ntmps193
  go_wp2
  go_ret
  refine ⟨_, rfl, ((Ext.refl w).alloc _).alloc _, ?_⟩
  have := RowAt.new (w.alloc (.cells #[.int .i64 r.per, .int .i64 r.lo, .int .i64 r.hi, .int .i64 r.card, .int .i64 r.slack, .slice a n c, .int .i64 r.all, .int .i64 r.off] 140)) #[.int .i64 r.lo, .int .i64 r.hi, .int .i64 r.card, .int .i64 r.slack] 3 4 4 (Nat.le_refl _) (by unfold maxLen; omega)
  rwa [World.size_alloc] at this
theorem ta_scales1 (p : Value) (w : World) : (Instr.typeAssert (.iface 140 p) 168 140 true).run Tryz.prog w = .ok (.tuple #[p, .bool true]) w := by kernel_rfl
theorem mt_scales (p : Value) (w : World) : (method 352 140 p "nacre/card.numbers").run Tryz.prog w = .ok (193, p) w := by kernel_rfl
set_option maxRecDepth 100000 in
set_option maxHeartbeats 2000000 in
theorem line_scales (r : Round) (a : Option Addr) (n c : Nat) (w : World) (ht : TabOk w) (hb : ∀ y, y ∈ [r.lo, r.hi, r.card, r.slack] → 0 ≤ y ∧ y ≤ 2000000) : Calls Tryz.prog 85 #[.iface 140 (headV r (.slice a n c))] w fun e w' => e = .returned (strV (lineT wWeigh [r.lo, r.hi, r.card, r.slack])) ∧ Ext w w' := by
  have HN := Lib.hid (fun w1 => scales_any r a n c w1)
  obtain ⟨ns, hns⟩ : ∃ ns, [r.lo, r.hi, r.card, r.slack] = ns := ⟨_, rfl⟩
  have hlen : ns.length = 4 := by rw [← hns]; rfl
  rw [hns] at hb ⊢
  rw [hns] at HN
  unfold headV at *
  have t1 := ta_scales1
  have t5 := nm_at1
  have t6 := mt_scales
  have HB := Lib.hid hb
  have HLN := Lib.hid hlen
  have HNS := Lib.hid hns
  clear hb hlen hns
  go_enter Tryz.func85, Tryz.ntmps85
  go_wp2_with (first
    | (go_at_call 112; refine (names_any _).mono ?_; rintro e w1 ⟨rfl, hx1⟩)
    | (go_at_call 193; refine (HN.out _).mono ?_; rintro e w2 ⟨b, rfl, hx2, hI⟩))
  have H3 := Lib.hid (fun (k : Nat) (y : Int) (hy : ns[k]? = some y) => ints_cell hI hy)
  have hx12 := hx1.trans hx2
  clear hI t1 t5 t6
  go_loopw [4, 23] (fun sv i wr => ∃ k : Nat, k ≤ 4 ∧ i = .int .i64 k ∧ sv = strV (lineT wWeigh (ns.take k)) ∧ Ext w wr ∧ Ext w2 wr) (fun _ i _ => 4 - (intOf i).toNat)
  case atStart => exact ⟨0, Nat.zero_le _, rfl, by simp [lineT, numsT], hx12, Ext.refl _⟩
  case round =>
    obtain ⟨k, hk, rfl, rfl, hx, hx2'⟩ := hrel
    by_cases hlt : k < 4
    · obtain ⟨y, hy⟩ : ∃ y, Hid (ns[k]? = some y) := ⟨_, List.getElem?_eq_getElem (show k < ns.length by rw [HLN.out]; exact hlt)⟩
      have hc := H3.out k y hy.out
      obtain ⟨y0, y1⟩ := HB.out y (List.mem_of_getElem? hy.out)
      have hc' := hx2'.cell hc
      have x2 : decide ((k : Int) < 4) = true := by simp; omega
      have hl1 : (lineT wWeigh (ns.take k)).length ≤ 1000 := by
        have := lineT_len (word := wWeigh) (ns := ns.take k) (fun y hy => HB.out y (List.mem_of_mem_take hy))
        have h2 : (ns.take k).length ≤ 4 := by rw [List.length_take, HLN.out]; omega
        have h3 : (wWeigh).length ≤ 5 := by decide
        omega
      have hl2 := Lib.itoa_length_le y (by omega) (by omega)
      have hd1 : ¬ 9223372036854775807 < 1 + (Lib.itoa y).length := by omega
      have hd2 : ¬ 9223372036854775807 < (lineT wWeigh (ns.take k)).length + (1 + (Lib.itoa y).length) := by omega
      have HIT := Lib.hid (fun w1 (hx : Ext w w1) => itoa_any y (by omega) (by omega) w1 (ht.ext hx))
      have HST := Lib.hid (lineT_step wWeigh hy.out)
      clear hc hl1 hl2
      go_wp2_with (go_at_call 87; refine (HIT.out _ hx).mono ?_; rintro e w3 ⟨rfl, hx3⟩)
      exact ⟨⟨k + 1, by omega, by go_num, by rw [HST.out]; exact str_step _ _, hx.trans hx3, hx2'.trans hx3⟩, by simp [intOf]; omega⟩
    · have hke : k = 4 := by omega
      have x2 : decide ((k : Int) < 4) = false := by simp; omega
      have ht2 : ns.take k = ns := List.take_of_length_le (by rw [HLN.out]; omega)
      have HT := Lib.hid ht2
      clear ht2 hke
      go_wp2
      go_ret
      exact ⟨by rw [HT.out]; rfl, hx⟩
theorem lot_any (h : House) (w : World) : Calls Tryz.prog 194 #[.agg h.cells.toArray] w fun e w' => ∃ b, e = .returned (.slice (some ⟨b, 0, none⟩) 6 6) ∧ Ext w w' ∧ IntsAt w' (.slice (some ⟨b, 0, none⟩) 6 6) h.nums := by
  unfold House.cells
  go_enter Tryz.func194, Tryz.ntmps194
  go_wp2
  go_ret
  refine ⟨_, rfl, ((Ext.refl w).alloc _).alloc _, ?_⟩
  have := RowAt.new (w.alloc (.cells #[.int .i64 h.out, .int .i64 h.cards, .int .i64 h.full, .int .i64 h.loose, .int .i64 h.miss, .int .i64 h.weighed] 142)) #[.int .i64 h.out, .int .i64 h.cards, .int .i64 h.full, .int .i64 h.loose, .int .i64 h.miss, .int .i64 h.weighed] 3 6 6 (Nat.le_refl _) (by unfold maxLen; omega)
  rwa [World.size_alloc] at this
theorem ta_lot1 (p : Value) (w : World) : (Instr.typeAssert (.iface 142 p) 168 140 true).run Tryz.prog w = .ok (.tuple #[z8, .bool false]) w := by kernel_rfl
theorem ta_lot2 (p : Value) (w : World) : (Instr.typeAssert (.iface 142 p) 168 142 true).run Tryz.prog w = .ok (.tuple #[p, .bool true]) w := by kernel_rfl
theorem mt_lot (p : Value) (w : World) : (method 352 142 p "nacre/card.numbers").run Tryz.prog w = .ok (194, p) w := by kernel_rfl
set_option maxRecDepth 100000 in
set_option maxHeartbeats 2000000 in
theorem line_lot (h : House) (w : World) (ht : TabOk w) (hb : ∀ y, y ∈ h.nums → 0 ≤ y ∧ y ≤ 2000000) : Calls Tryz.prog 85 #[.iface 142 (.agg h.cells.toArray)] w fun e w' => e = .returned (strV (lineT wHouse h.nums)) ∧ Ext w w' := by
  have HN := Lib.hid (fun w1 => lot_any h w1)
  obtain ⟨ns, hns⟩ : ∃ ns, h.nums = ns := ⟨_, rfl⟩
  have hlen : ns.length = 6 := by rw [← hns]; rfl
  rw [hns] at hb ⊢
  rw [hns] at HN
  unfold House.cells at *
  have t1 := ta_lot1
  have t2 := ta_lot2
  have t5 := nm_at2
  have t6 := mt_lot
  have HB := Lib.hid hb
  have HLN := Lib.hid hlen
  have HNS := Lib.hid hns
  clear hb hlen hns
  go_enter Tryz.func85, Tryz.ntmps85
  go_wp2_with (first
    | (go_at_call 112; refine (names_any _).mono ?_; rintro e w1 ⟨rfl, hx1⟩)
    | (go_at_call 194; refine (HN.out _).mono ?_; rintro e w2 ⟨b, rfl, hx2, hI⟩))
  have H3 := Lib.hid (fun (k : Nat) (y : Int) (hy : ns[k]? = some y) => ints_cell hI hy)
  have hx12 := hx1.trans hx2
  clear hI t1 t2 t5 t6
  go_loopw [4, 23] (fun sv i wr => ∃ k : Nat, k ≤ 6 ∧ i = .int .i64 k ∧ sv = strV (lineT wHouse (ns.take k)) ∧ Ext w wr ∧ Ext w2 wr) (fun _ i _ => 6 - (intOf i).toNat)
  case atStart => exact ⟨0, Nat.zero_le _, rfl, by simp [lineT, numsT], hx12, Ext.refl _⟩
  case round =>
    obtain ⟨k, hk, rfl, rfl, hx, hx2'⟩ := hrel
    by_cases hlt : k < 6
    · obtain ⟨y, hy⟩ : ∃ y, Hid (ns[k]? = some y) := ⟨_, List.getElem?_eq_getElem (show k < ns.length by rw [HLN.out]; exact hlt)⟩
      have hc := H3.out k y hy.out
      obtain ⟨y0, y1⟩ := HB.out y (List.mem_of_getElem? hy.out)
      have hc' := hx2'.cell hc
      have x2 : decide ((k : Int) < 6) = true := by simp; omega
      have hl1 : (lineT wHouse (ns.take k)).length ≤ 1000 := by
        have := lineT_len (word := wHouse) (ns := ns.take k) (fun y hy => HB.out y (List.mem_of_mem_take hy))
        have h2 : (ns.take k).length ≤ 6 := by rw [List.length_take, HLN.out]; omega
        have h3 : (wHouse).length ≤ 5 := by decide
        omega
      have hl2 := Lib.itoa_length_le y (by omega) (by omega)
      have hd1 : ¬ 9223372036854775807 < 1 + (Lib.itoa y).length := by omega
      have hd2 : ¬ 9223372036854775807 < (lineT wHouse (ns.take k)).length + (1 + (Lib.itoa y).length) := by omega
      have HIT := Lib.hid (fun w1 (hx : Ext w w1) => itoa_any y (by omega) (by omega) w1 (ht.ext hx))
      have HST := Lib.hid (lineT_step wHouse hy.out)
      clear hc hl1 hl2
      go_wp2_with (go_at_call 87; refine (HIT.out _ hx).mono ?_; rintro e w3 ⟨rfl, hx3⟩)
      exact ⟨⟨k + 1, by omega, by go_num, by rw [HST.out]; exact str_step _ _, hx.trans hx3, hx2'.trans hx3⟩, by simp [intOf]; omega⟩
    · have hke : k = 6 := by omega
      have x2 : decide ((k : Int) < 6) = false := by simp; omega
      have ht2 : ns.take k = ns := List.take_of_length_le (by rw [HLN.out]; omega)
      have HT := Lib.hid ht2
      clear ht2 hke
      go_wp2
      go_ret
      exact ⟨by rw [HT.out]; rfl, hx⟩
theorem foot_any (r : Round) (a : Option Addr) (n c : Nat) (w : World) : Calls Tryz.prog 195 #[headV r (.slice a n c)] w fun e w' => ∃ b, e = .returned (.slice (some ⟨b, 0, none⟩) 2 2) ∧ Ext w w' ∧ IntsAt w' (.slice (some ⟨b, 0, none⟩) 2 2) [r.all, r.off] := by
  unfold headV
  go_enter Tryz.func195, Tryz.ntmps195
  go_wp2
  go_ret
  refine ⟨_, rfl, ((Ext.refl w).alloc _).alloc _, ?_⟩
  have := RowAt.new (w.alloc (.cells #[.int .i64 r.per, .int .i64 r.lo, .int .i64 r.hi, .int .i64 r.card, .int .i64 r.slack, .slice a n c, .int .i64 r.all, .int .i64 r.off] 143)) #[.int .i64 r.all, .int .i64 r.off] 3 2 2 (Nat.le_refl _) (by unfold maxLen; omega)
  rwa [World.size_alloc] at this
theorem ta_foot1 (p : Value) (w : World) : (Instr.typeAssert (.iface 143 p) 168 140 true).run Tryz.prog w = .ok (.tuple #[z8, .bool false]) w := by kernel_rfl
theorem ta_foot2 (p : Value) (w : World) : (Instr.typeAssert (.iface 143 p) 168 142 true).run Tryz.prog w = .ok (.tuple #[z6, .bool false]) w := by kernel_rfl
theorem ta_foot3 (p : Value) (w : World) : (Instr.typeAssert (.iface 143 p) 168 143 true).run Tryz.prog w = .ok (.tuple #[p, .bool true]) w := by kernel_rfl
theorem mt_foot (p : Value) (w : World) : (method 352 143 p "nacre/card.numbers").run Tryz.prog w = .ok (195, p) w := by kernel_rfl
set_option maxRecDepth 100000 in
set_option maxHeartbeats 2000000 in
theorem line_foot (r : Round) (a : Option Addr) (n c : Nat) (w : World) (ht : TabOk w) (hb : ∀ y, y ∈ [r.all, r.off] → 0 ≤ y ∧ y ≤ 2000000) : Calls Tryz.prog 85 #[.iface 143 (headV r (.slice a n c))] w fun e w' => e = .returned (strV (lineT wAll [r.all, r.off])) ∧ Ext w w' := by
  have HN := Lib.hid (fun w1 => foot_any r a n c w1)
  obtain ⟨ns, hns⟩ : ∃ ns, [r.all, r.off] = ns := ⟨_, rfl⟩
  have hlen : ns.length = 2 := by rw [← hns]; rfl
  rw [hns] at hb ⊢
  rw [hns] at HN
  unfold headV at *
  have t1 := ta_foot1
  have t2 := ta_foot2
  have t3 := ta_foot3
  have t5 := nm_at3
  have t6 := mt_foot
  have HB := Lib.hid hb
  have HLN := Lib.hid hlen
  have HNS := Lib.hid hns
  clear hb hlen hns
  go_enter Tryz.func85, Tryz.ntmps85
  go_wp2_with (first
    | (go_at_call 112; refine (names_any _).mono ?_; rintro e w1 ⟨rfl, hx1⟩)
    | (go_at_call 195; refine (HN.out _).mono ?_; rintro e w2 ⟨b, rfl, hx2, hI⟩))
  have H3 := Lib.hid (fun (k : Nat) (y : Int) (hy : ns[k]? = some y) => ints_cell hI hy)
  have hx12 := hx1.trans hx2
  clear hI t1 t2 t3 t5 t6
  go_loopw [4, 23] (fun sv i wr => ∃ k : Nat, k ≤ 2 ∧ i = .int .i64 k ∧ sv = strV (lineT wAll (ns.take k)) ∧ Ext w wr ∧ Ext w2 wr) (fun _ i _ => 2 - (intOf i).toNat)
  case atStart => exact ⟨0, Nat.zero_le _, rfl, by simp [lineT, numsT], hx12, Ext.refl _⟩
  case round =>
    obtain ⟨k, hk, rfl, rfl, hx, hx2'⟩ := hrel
    by_cases hlt : k < 2
    · obtain ⟨y, hy⟩ : ∃ y, Hid (ns[k]? = some y) := ⟨_, List.getElem?_eq_getElem (show k < ns.length by rw [HLN.out]; exact hlt)⟩
      have hc := H3.out k y hy.out
      obtain ⟨y0, y1⟩ := HB.out y (List.mem_of_getElem? hy.out)
      have hc' := hx2'.cell hc
      have x2 : decide ((k : Int) < 2) = true := by simp; omega
      have hl1 : (lineT wAll (ns.take k)).length ≤ 1000 := by
        have := lineT_len (word := wAll) (ns := ns.take k) (fun y hy => HB.out y (List.mem_of_mem_take hy))
        have h2 : (ns.take k).length ≤ 2 := by rw [List.length_take, HLN.out]; omega
        have h3 : (wAll).length ≤ 5 := by decide
        omega
      have hl2 := Lib.itoa_length_le y (by omega) (by omega)
      have hd1 : ¬ 9223372036854775807 < 1 + (Lib.itoa y).length := by omega
      have hd2 : ¬ 9223372036854775807 < (lineT wAll (ns.take k)).length + (1 + (Lib.itoa y).length) := by omega
      have HIT := Lib.hid (fun w1 (hx : Ext w w1) => itoa_any y (by omega) (by omega) w1 (ht.ext hx))
      have HST := Lib.hid (lineT_step wAll hy.out)
      clear hc hl1 hl2
      go_wp2_with (go_at_call 87; refine (HIT.out _ hx).mono ?_; rintro e w3 ⟨rfl, hx3⟩)
      exact ⟨⟨k + 1, by omega, by go_num, by rw [HST.out]; exact str_step _ _, hx.trans hx3, hx2'.trans hx3⟩, by simp [intOf]; omega⟩
    · have hke : k = 2 := by omega
      have x2 : decide ((k : Int) < 2) = false := by simp; omega
      have ht2 : ns.take k = ns := List.take_of_length_le (by rw [HLN.out]; omega)
      have HT := Lib.hid ht2
      clear ht2 hke
      go_wp2
      go_ret
      exact ⟨by rw [HT.out]; rfl, hx⟩
end Go.Proofs.YtbeophjdiddomaaGreatDoor

/- The text of a round, and Print. -/
namespace Go.Proofs.YtbeophjdiddomaaGreatDoor
open Go.RowKit

/-! ### In plain Lean -/
def linesUp (r : Round) (k : Nat) : List (List UInt8) := lineT wRound [r.per, r.houses.length] :: lineT wWeigh [r.lo, r.hi, r.card, r.slack] :: (r.houses.take k).map (fun h => lineT wHouse h.nums)
theorem linesUp_length (r : Round) (k : Nat) (hk : k ≤ r.houses.length) : (linesUp r k).length = k + 2 := by
  unfold linesUp; rw [List.length_cons, List.length_cons, List.length_map, List.length_take]; omega
theorem linesUp_succ {r : Round} {k : Nat} {h : House} (hk : r.houses[k]? = some h) : linesUp r (k + 1) = linesUp r k ++ [lineT wHouse h.nums] := by
  unfold linesUp; rw [List.take_add_one, hk]; simp
theorem linesUp_end (r : Round) : linesUp r r.houses.length ++ [lineT wAll [r.all, r.off]] = linesT r := by
  unfold linesUp linesT; rw [List.take_of_length_le (Nat.le_refl _)]
theorem linesT_length (r : Round) : (linesT r).length = r.houses.length + 3 := by simp [linesT]
/-- Numbers that are not negative, and have at most 7 digits; not too many houses. -/
structure TextB (r : Round) : Prop where
  hd : ∀ y, y ∈ [r.per, (r.houses.length : Int)] → 0 ≤ y ∧ y ≤ 2000000
  sc : ∀ y, y ∈ [r.lo, r.hi, r.card, r.slack] → 0 ≤ y ∧ y ≤ 2000000
  ft : ∀ y, y ∈ [r.all, r.off] → 0 ≤ y ∧ y ≤ 2000000
  lt : ∀ h, h ∈ r.houses → ∀ y, y ∈ h.nums → 0 ≤ y ∧ y ≤ 2000000
  n : r.houses.length ≤ 500
theorem textB_of {r : Round} (hB : RoundB r) : TextB r where
  hd := by intro y hy; have := hB.p1; have := hB.p2; have := hB.h2; simp at hy; omega
  sc := by intro y hy; have := hB.l1; have := hB.l2; have := hB.l3; have := hB.c1; have := hB.c2; have := hB.s1; have := hB.s2; simp at hy; omega
  ft := by intro y hy; have := hB.a1; have := hB.a2; have := hB.o1; have := hB.o2; simp at hy; omega
  lt := by
    intro h hh y hy
    obtain ⟨⟨a1, a2⟩, ⟨b1, b2⟩, ⟨c1, c2⟩, ⟨d1, d2⟩, ⟨e1, e2⟩, ⟨f1, f2⟩⟩ := badHouse_iff.1 (hB.hs h hh)
    unfold House.nums at hy; simp at hy; omega
  n := by have := hB.h2; omega
section
variable {r : Round} (hB : TextB r)
include hB
theorem linesT_short : ∀ l, l ∈ linesT r → l.length ≤ 200 := by
  intro l hl
  unfold linesT at hl
  simp only [List.cons_append, List.mem_cons, List.mem_append, List.mem_map, List.mem_nil_iff, or_false] at hl
  rcases hl with rfl | rfl | ⟨h, hh, rfl⟩ | rfl
  · have := lineT_len (word := wRound) (hB.hd); have h5 : wRound.length = 5 := rfl; simp only [List.length_cons, List.length_nil] at this; omega
  · have := lineT_len (word := wWeigh) (hB.sc); have h5 : wWeigh.length = 5 := rfl; simp only [List.length_cons, List.length_nil] at this; omega
  · have := lineT_len (word := wHouse) (hB.lt h hh); have h5 : wHouse.length = 5 := rfl; have h6 : h.nums.length = 6 := rfl; omega
  · have := lineT_len (word := wAll) (hB.ft); have h5 : wAll.length = 3 := rfl; simp only [List.length_cons, List.length_nil] at this; omega
end
theorem byte_le (c : UInt8) : (c.toNat : Int) ≤ 255 := by have := c.toNat_lt; omega
theorem term_bd (c : UInt8) {k i : Nat} (hk : k ≤ 200) (hi : i ≤ 600) : (0 ≤ (c.toNat : Int) * ((k : Int) + 1) ∧ (c.toNat : Int) * ((k : Int) + 1) ≤ 51255) ∧ 0 ≤ (c.toNat : Int) * ((k : Int) + 1) * ((i : Int) + 1) ∧ (c.toNat : Int) * ((k : Int) + 1) * ((i : Int) + 1) ≤ 30804255 := by
  have h0 : (0 : Int) ≤ (c.toNat : Int) := by omega
  have h1 := byte_le c
  have h2 : 0 ≤ (c.toNat : Int) * ((k : Int) + 1) := Int.mul_nonneg h0 (by omega)
  have h3 : (c.toNat : Int) * ((k : Int) + 1) ≤ 255 * 201 := Int.mul_le_mul h1 (by omega) (by omega) (by omega)
  have h4 : 0 ≤ (c.toNat : Int) * ((k : Int) + 1) * ((i : Int) + 1) := Int.mul_nonneg h2 (by omega)
  have h5 : (c.toNat : Int) * ((k : Int) + 1) * ((i : Int) + 1) ≤ 51255 * 601 := Int.mul_le_mul (by omega) (by omega) (by omega) (by omega)
  omega
theorem lineSum_bd {i : Nat} {l : List UInt8} (hi : i ≤ 600) : ∀ {k : Nat}, k ≤ 200 → 0 ≤ lineSum i l k ∧ lineSum i l k ≤ k * 30804255
  | 0, _ => by simp [lineSum]
  | k + 1, hk => by
    have h1 := lineSum_bd (l := l) hi (k := k) (by omega)
    have h2 := (term_bd (l.getD k 0) (k := k) (i := i) (by omega) hi).2
    rw [lineSum]; push_cast; omega
theorem linesSum_bd {ls : List (List UInt8)} (h : ∀ l, l ∈ ls → l.length ≤ 200) : ∀ {i : Nat}, i ≤ 600 → 0 ≤ linesSum ls i ∧ linesSum ls i ≤ i * 6160851000
  | 0, _ => by simp [linesSum]
  | i + 1, hi => by
    have h1 := linesSum_bd h (i := i) (by omega)
    have hl : (ls.getD i []).length ≤ 200 := by
      by_cases hi : i < ls.length
      · rw [List.getD_eq_getElem?_getD, List.getElem?_eq_getElem hi]; exact h _ (List.getElem_mem hi)
      · simp [List.getD, Nat.not_lt.1 hi]
    have h2 := lineSum_bd (i := i) (l := ls.getD i []) (by omega) hl
    rw [linesSum]
    have h3 : ((ls.getD i []).length : Int) * 30804255 ≤ 200 * 30804255 := Int.mul_le_mul_of_nonneg_right (by omega) (by omega)
    push_cast; omega
theorem info_string : (Tryz.prog.info? 9).map (fun i => (i.zero, i.size, i.bytes)) = some (some (.string ⟨#[]⟩), 1, 16) := by kernel_rfl
theorem E_strs : Elem Tryz.prog 98 9 1 16 (.string ⟨#[]⟩) := by
  obtain ⟨i, h1, h2, h3, h4⟩ := info_parts info_string
  exact ⟨Tryz.underlying98, ⟨i, h1, h2, h3, h4⟩, rfl, by decide⟩
theorem owns_two {w : World} {base : Nat} {e : TypeId} (x y : Value) (hb : base ≤ w.heap.size) : (w.alloc (.cells #[x, y] e)).ownsRow base e 1 (.slice (some ⟨w.heap.size, 0, none⟩) 2 2) 2 [x, y] :=
  ⟨rfl, .inr ⟨w.heap.size, 2, #[x, y], rfl, hb, World.alloc_heap_new w _, Nat.le_refl _, by unfold maxLen; omega, rfl, rfl⟩⟩

theorem strs_cell {W : World} {b n c : Nat} {ls : List (List UInt8)} (h : StrsAt W (.slice (some ⟨b, 0, none⟩) n c) ls) {k : Nat} {l : List UInt8} (hy : ls[k]? = some l) : W.cell? ⟨b, k, none⟩ = some (strV l) := by
  obtain ⟨a', c', hv, _, _, _, h3⟩ := h
  obtain ⟨b', o', e, hc⟩ := h3 k (strV l) (by rw [List.getElem?_map, hy]; rfl)
  injection hv with h1 h2 h3
  rw [e] at h1
  cases h1
  rw [Nat.zero_add] at hc
  exact hc
theorem wrap_term {S T c k i : Int} (t1 : 0 ≤ c * (k + 1)) (t2 : c * (k + 1) ≤ 51255) (t3 : 0 ≤ c * (k + 1) * (i + 1)) (t4 : c * (k + 1) * (i + 1) ≤ 30804255) (c0 : 0 ≤ c) (c1 : c ≤ 255) (s0 : 0 ≤ S) (s1 : S ≤ 3098908053000) (u0 : 0 ≤ T) (u1 : T ≤ 6160851000) :
    wrap64 (S + T + wrap64 (wrap64 (wrap64 c * (k + 1)) * (i + 1))) = S + (T + c * (k + 1) * (i + 1)) := by
  rw [IntWalk.wrap64_in c (by omega), IntWalk.wrap64_in (c * (k + 1)) (by omega), IntWalk.wrap64_in (c * (k + 1) * (i + 1)) (by omega), IntWalk.wrap64_in _ (by omega)]; omega
theorem ba_app (x y : List UInt8) : (({ data := x.toArray } : ByteArray) ++ ({ data := y.toArray } : ByteArray)) = { data := (x ++ y).toArray } := by
  apply ByteArray.ext; simp
theorem end_str (J a b c : List UInt8) : Value.string ((((((({ data := J.toArray } : ByteArray) ++ ({ data := #[10, 101, 110, 100, 32] } : ByteArray)) ++ ({ data := a.toArray } : ByteArray)) ++ ({ data := b.toArray } : ByteArray)) ++ ({ data := c.toArray } : ByteArray)) ++ ({ data := #[10] } : ByteArray))) = strV (J ++ ([10, 101, 110, 100, 32] ++ a ++ b ++ c ++ [10])) := by
  rw [show (({ data := #[10, 101, 110, 100, 32] } : ByteArray)) = { data := ([10, 101, 110, 100, 32] : List UInt8).toArray } from rfl, show (({ data := #[10] } : ByteArray)) = { data := ([10] : List UInt8).toArray } from rfl, ba_app, ba_app, ba_app, ba_app, ba_app]
  simp
theorem lens_le {L : List (List UInt8)} (h : ∀ l, l ∈ L → l.length ≤ 200) : Lib.lens L ≤ 200 * L.length := by
  induction L with
  | nil => simp [Lib.lens]
  | cons x L ih =>
    have h1 := h x (by simp)
    have h2 := ih (fun l hl => h l (by simp [hl]))
    have : Lib.lens (x :: L) = x.length + Lib.lens L := by simp [Lib.lens]
    rw [this, List.length_cons]; omega
theorem join_short {L : List (List UInt8)} (h : ∀ l, l ∈ L → l.length ≤ 200) (h7 : L.length ≤ 503) : (Lib.join L [10]).length ≤ 200000 := by
  have h2 := lens_le h
  cases L with
  | nil => simp [Lib.join]
  | cons x L =>
    rw [Lib.join_length]
    simp only [List.length_cons, List.length_nil] at h2 h7 ⊢
    omega
set_option maxRecDepth 100000 in
set_option maxHeartbeats 4000000 in
theorem text_any (v : Value) (r : Round) (w : World) (hr : RoundAt w v r) (hB : TextB r) (ht : TabOk w) :
    Calls Tryz.prog 50 #[v] w fun e w' => e = .returned (strV (textT r)) ∧ Ext w w' := by
  obtain ⟨hv, rfl, hh⟩ := hr
  obtain ⟨a, c, rfl, h1, h2, h3⟩ := hh.open
  have HH := Lib.hid h3
  have HT := Lib.hid (fun w1 (hx : Ext w w1) => ht.ext hx)
  have HL1 := Lib.hid (fun w1 (hx : Ext w w1) => line_head r a r.houses.length c w1 (ht.ext hx) (hB.hd))
  have HL2 := Lib.hid (fun w1 (hx : Ext w w1) => line_scales r a r.houses.length c w1 (ht.ext hx) (hB.sc))
  have HL3 := Lib.hid (fun h (hm : h ∈ r.houses) w1 (hx : Ext w w1) => line_lot h w1 (ht.ext hx) (hB.lt h hm))
  have HL4 := Lib.hid (fun w1 (hx : Ext w w1) => line_foot r a r.houses.length c w1 (ht.ext hx) (hB.ft))
  unfold Round.cells headV House.cells at *
  clear h3 hh ht
  have hmix : Tryz.prog.follows .mixedOrders = true := by kernel_rfl
  have hx0 : Ext w (w.alloc (.cells #[.int .i64 r.per, .int .i64 r.lo, .int .i64 r.hi, .int .i64 r.card, .int .i64 r.slack, .slice a r.houses.length c, .int .i64 r.all, .int .i64 r.off] 26)) := (Ext.refl w).alloc _
  have hb0 := World.alloc_heap_new w (.cells #[.int .i64 r.per, .int .i64 r.lo, .int .i64 r.hi, .int .i64 r.card, .int .i64 r.slack, .slice a r.houses.length c, .int .i64 r.all, .int .i64 r.off] 26)
  have HBX := Lib.hid (fun w1 (hx : Ext (w.alloc (.cells #[.int .i64 r.per, .int .i64 r.lo, .int .i64 r.hi, .int .i64 r.card, .int .i64 r.slack, .slice a r.houses.length c, .int .i64 r.all, .int .i64 r.off] 26)) w1) => (hx.block (by simp)).trans hb0)
  clear hb0
  have tok1 : True := trivial
  go_enter Tryz.func50, Tryz.ntmps50
  go_upto_region 1 with fail
  go_region_held3 (fun w' => w'.cell? ⟨w.heap.size, 0, none⟩ = some (.int .i64 r.per) ∧ w'.cell? ⟨w.heap.size, 1, none⟩ = some (.int .i64 r.lo) ∧ w'.cell? ⟨w.heap.size, 2, none⟩ = some (.int .i64 r.hi) ∧ w'.cell? ⟨w.heap.size, 3, none⟩ = some (.int .i64 r.card) ∧ w'.cell? ⟨w.heap.size, 4, none⟩ = some (.int .i64 r.slack) ∧
    w'.cell? ⟨w.heap.size, 5, none⟩ = some (.slice a r.houses.length c) ∧ w'.cell? ⟨w.heap.size, 6, none⟩ = some (.int .i64 r.all) ∧ w'.cell? ⟨w.heap.size, 7, none⟩ = some (.int .i64 r.off))
    (first | go_keep | exact round_cells (HBX.out _ hx01) | exact round_cells (HBX.out _ hx02) | exact round_cells (HBX.out _ (hx02.alloc _)))
    (first
      | (go_at_call 85; have _t := tok1; refine (HL1.out _ hx0.drew).mono ?_; rintro e w1 ⟨rfl, hx1⟩; have hx01 := ((Ext.refl _).drew).trans hx1; have hxw1 := hx0.trans hx01; clear tok1 _t)
      | (go_at_call 85; refine (HL2.out _ hxw1).mono ?_; rintro e w2 ⟨rfl, hx2⟩; have hx02 := hx01.trans hx2; have hxw2 := hx0.trans hx02))
  have hz2 : w.heap.size + 1 ≤ w2.heap.size := by have := hx02.size; simp at this; omega
  have hown0 := owns_two (w := w2) (base := w.heap.size + 1) (e := 9) (strV (lineT wRound [r.per, (r.houses.length : Int)])) (strV (lineT wWeigh [r.lo, r.hi, r.card, r.slack])) hz2
  have hbx0 := Lib.hid (HBX.out _ (hx02.alloc (.cells #[strV (lineT wRound [r.per, (r.houses.length : Int)]), strV (lineT wWeigh [r.lo, r.hi, r.card, r.slack])] 9)))
  have hxw3 := hxw2.alloc (.cells #[strV (lineT wRound [r.per, (r.houses.length : Int)]), strV (lineT wWeigh [r.lo, r.hi, r.card, r.slack])] 9)
  have z5 := (round_cells hbx0.out).2.2.2.2.2.1
  have h4 := hB.n
  go_wp2
  go_loopw [3, 22] (fun lv i wr => ∃ k : Nat, k ≤ r.houses.length ∧ i = .int .i64 k ∧ wr.ownsRow (w.heap.size + 1) 9 1 lv (k + 2) ((linesUp r k).map strV) ∧ Ext w wr ∧ Hid (wr.heap[w.heap.size]? = some (.cells #[.int .i64 r.per, .int .i64 r.lo, .int .i64 r.hi, .int .i64 r.card, .int .i64 r.slack, .slice a r.houses.length c, .int .i64 r.all, .int .i64 r.off] 26 (0, 0)))) (fun _ i _ => r.houses.length - (intOf i).toNat)
  case atStart => exact ⟨0, Nat.zero_le _, rfl, hown0, hxw3, hbx0⟩
  case round =>
    clear hown0 hbx0 hxw3 hxw2 hx02 hz2 hx2 hxw1 hx01 hx1 hx0 z5
    obtain ⟨k, hk, rfl, hown, hx, hbx⟩ := hrel
    obtain ⟨z0, z1, z2, z3, z4, z5, z6, z7⟩ := round_cells hbx.out
    have hbk := (Array.getElem?_eq_some_iff.1 hbx.out).1
    have hsz : k + 2 + 1 ≤ maxLen ∧ (k + 2 + 1) * 16 ≤ 140737488355328 := by unfold maxLen; omega
    have HSZ := Lib.hid hsz
    clear hsz
    by_cases hlt : k < r.houses.length
    · have x2 : decide ((k : Int) < (r.houses.length : Int)) = true := by simpa using hlt
      obtain ⟨b, o, x, rfl, hxk, c0, c1, c2, c3, c4, c5⟩ := HH.out k hlt
      have d0 := hx.cell c0
      have d1 := hx.cell c1
      have d2 := hx.cell c2
      have d3 := hx.cell c3
      have d4 := hx.cell c4
      have d5 := hx.cell c5
      have HUP := Lib.hid (linesUp_succ hxk.out)
      have HL := Lib.hid (fun w1 hx => HL3.out x (List.mem_of_getElem? hxk.out) w1 hx)
      clear c0 c1 c2 c3 c4 c5
      go_wp2_with (first
        | (go_at_call 85; refine (HL.out _ (hx.alloc _)).mono ?_; rintro e w4 ⟨rfl, hx4⟩; have hx14 := ((Ext.refl wr).alloc _).trans hx4; have hbz : w.heap.size + 1 ≤ w4.heap.size := by have := hx14.size; omega)
        | (at_builtin; refine wpList_push E_strs rfl _ _ rfl (w.heap.size + 1) rfl (owns_ext hown hx14) rfl rfl (by simp [Value.oneCell']) ?_ HSZ.out.1 HSZ.out.2 hbz; intro g cap w5 hown' hext hgr))
      go_roundw
      case rel => exact ⟨k + 1, by omega, by go_num, by rw [HUP.out, List.map_append]; exact hown', hext _ (hx.trans hx14) (Nat.le_succ _), kept_push hgr ((hx14.block hbk).trans hbx.out) (owns_block hown) (Nat.lt_succ_self _)⟩
      case measure => simp [intOf]; omega
    · have hke : k = r.houses.length := by omega
      subst hke
      have x2 : decide ((r.houses.length : Int) < (r.houses.length : Int)) = false := by simp
      go_wp2_with (first
        | (go_at_call 85; refine (HL4.out _ hx).mono ?_; rintro e w4 ⟨rfl, hx4⟩; have hbz : w.heap.size + 1 ≤ w4.heap.size := by have := hx4.size; omega)
        | (at_builtin; refine wpList_push E_strs rfl _ _ rfl (w.heap.size + 1) rfl (owns_ext hown hx4) rfl rfl (by simp [Value.oneCell']) ?_ HSZ.out.1 HSZ.out.2 hbz; intro g cap w5 hown' hext hgr))
      have hle := linesUp_end r
      have hown2 : w5.ownsRow (w.heap.size + 1) 9 1 (.slice (some ⟨g, 0, none⟩) (r.houses.length + 2 + 1) cap) (linesT r).length ((linesT r).map strV) := by
        rw [linesT_length, ← hle, List.map_append]; exact hown'
      have hxw5 := hext _ (hx.trans hx4) (Nat.le_succ _)
      have hSt : StrsAt w5 (.slice (some ⟨g, 0, none⟩) (r.houses.length + 2 + 1) cap) (linesT r) := RowAt.of_owns hown2
      have hbd := fun (i : Nat) (hi : i ≤ 600) => linesSum_bd (linesT_short hB) hi
      have hsh := linesT_short hB
      have hlen := linesT_length r
      have hne : linesT r ≠ [] := by unfold linesT; simp
      have HTX : Hid (textT r = Lib.join (linesT r) [10] ++ endT (checkT (linesT r))) := rfl
      generalize linesT r = L at *
      have HST := Lib.hid hSt
      have HBD := Lib.hid hbd
      have HSH := Lib.hid hsh
      have HLN := Lib.hid hlen
      have HNE := Lib.hid hne
      have hcell : ∀ (i : Nat) (l : List UInt8), L[i]? = some l → w5.cell? ⟨g, i, none⟩ = some (strV l) := fun i l hi => strs_cell hSt hi
      have HCE := Lib.hid hcell
      clear hle hown2 hSt hbd hsh hlen hne hcell hown' hext hgr hown hx hx4 z0 z1 z2 z3 z4 z5 z6 z7 hbx
      go_loopw [6, 43] (fun cv iv wr => ∃ i : Nat, i ≤ L.length ∧ iv = .int .i64 i ∧ cv = .int .i64 (linesSum L i) ∧ wr = w5) (fun _ iv _ => L.length - (intOf iv).toNat)
      case atStart => exact ⟨0, Nat.zero_le _, rfl, rfl, rfl⟩
      case round =>
        obtain ⟨i, hi, rfl, rfl, rfl⟩ := hrel
        have hbi := HBD.out i (by have := HLN.out; omega)
        have hN : L.length ≤ 503 := by have := HLN.out; omega
        by_cases hli : i < L.length
        · obtain ⟨l, hl⟩ : ∃ l, Hid (L[i]? = some l) := ⟨_, List.getElem?_eq_getElem hli⟩
          have hc := HCE.out i l hl.out
          have hll := HSH.out l (List.mem_of_getElem? hl.out)
          have hgd : L.getD i [] = l := by rw [List.getD_eq_getElem?_getD, hl.out]; rfl
          have HGD := Lib.hid (show linesSum L (i + 1) = linesSum L i + lineSum i l l.length by rw [linesSum, hgd])
          have x2 : decide ((i : Int) < (r.houses.length : Int) + 2 + 1) = true := by simp; have := HLN.out; omega
          have x3 : (i : Int) < (r.houses.length : Int) + 2 + 1 := by have := HLN.out; omega
          have x4 : i < r.houses.length + 2 + 1 := by have := HLN.out; omega
          obtain ⟨hb1, hb2⟩ := hbi
          have hb3 : linesSum L i ≤ 503 * 6160851000 := by
            have : (i : Int) * 6160851000 ≤ 503 * 6160851000 := Int.mul_le_mul_of_nonneg_right (by omega) (by omega)
            omega
          clear hgd hb2
          obtain ⟨wL, hwL⟩ : ∃ wL : World, wL = wr := ⟨_, rfl⟩
          subst hwL
          go_wp2
          go_loopw [6, 50] (fun cv kv wr => ∃ k : Nat, k ≤ l.length ∧ kv = .int .i64 k ∧ cv = .int .i64 (linesSum L i + lineSum i l k) ∧ wr = wL) (fun _ kv _ => l.length - (intOf kv).toNat)
          case atStart => exact ⟨0, Nat.zero_le _, rfl, by simp [lineSum], rfl⟩
          case round =>
            obtain ⟨k, hk, rfl, rfl, rfl⟩ := hrel
            by_cases hlk : k < l.length
            · have hby : l.getD k 0 = l[k] := by rw [List.getD_eq_getElem?_getD, List.getElem?_eq_getElem hlk]; rfl
              have hs := lineSum_bd (i := i) (l := l) (by omega) (k := k) (by omega)
              have ht := term_bd (l[k]) (k := k) (i := i) (by omega) (by omega)
              obtain ⟨⟨t1, t2⟩, t3, t4⟩ := ht
              have hs2 : lineSum i l k ≤ 200 * 30804255 := by
                have : (k : Int) * 30804255 ≤ 200 * 30804255 := Int.mul_le_mul_of_nonneg_right (by omega) (by omega)
                omega
              obtain ⟨hs1, _⟩ := hs
              have HSU := Lib.hid (show lineSum i l (k + 1) = lineSum i l k + ((l[k]).toNat : Int) * ((k : Int) + 1) * ((i : Int) + 1) by rw [lineSum, hby])
              have x5 : decide ((k : Int) < (l.length : Int)) = true := by simpa using hlk
              clear hby
              go_wp2
              go_roundw
              case rel =>
                refine ⟨k + 1, by omega, by go_num, ?_, trivial⟩
                rw [HSU.out]
                exact congrArg (Value.int IntKind.i64) (wrap_term t1 t2 t3 t4 (by omega) (byte_le _) hb1 (by omega) hs1 (by omega))
              case measure => simp [intOf]; omega
            · have hke : k = l.length := by omega
              subst hke
              have x5 : decide ((l.length : Int) < (l.length : Int)) = false := by simp
              go_wp2
              exact ⟨⟨i + 1, by omega, by go_num, by rw [HGD.out], trivial⟩, by simp [intOf]; omega⟩
        · have hie : i = L.length := by omega
          subst hie
          have x2 : decide ((L.length : Int) < (r.houses.length : Int) + 2 + 1) = false := by simp; have := HLN.out; omega
          obtain ⟨hb1, hb2⟩ := hbi
          have hck : ∃ ck, checkT L = ck ∧ 0 ≤ ck ∧ ck ≤ 138 := ⟨_, rfl, by unfold checkT; omega, by unfold checkT; omega⟩
          obtain ⟨ck, hck, hc0, hc1⟩ := hck
          have HCK := Lib.hid hck
          have hsum : linesSum L L.length % 139 = ck := hck
          have hlj : (Lib.join L [10]).length ≤ 200000 := by
            have h7 : L.length ≤ 503 := by have := HLN.out; omega
            exact join_short HSH.out h7
          have HJ := Lib.hid (join_any _ L [10] wr HST.out HNE.out (by have := HLN.out; omega) (by omega))
          have HIT := Lib.hid (fun y (h0 : 0 ≤ y) (h1 : y ≤ 1000) w1 (hx : Ext w w1) => itoa_any y (by omega) (by omega) w1 (HT.out w1 hx))
          clear hck
          go_wp2_with (first
            | (go_at_call 86; refine HJ.out.mono ?_; rintro e w6 ⟨rfl, hx6⟩))
          have hxw6 := hxw5.trans hx6
          have hl1 := Lib.itoa_length_le (ck / 100) (by omega) (by omega)
          have hl2 := Lib.itoa_length_le (ck / 10 % 10) (by omega) (by omega)
          have hl3 := Lib.itoa_length_le (ck % 10) (by omega) (by omega)
          refine (HIT.out (ck / 100) (by omega) (by omega) w6 hxw6).mono ?_
          rintro e w7 ⟨rfl, hx7⟩
          have hxw7 := hxw6.trans hx7
          go_wp2_with fail
          refine (HIT.out (ck / 10 % 10) (by omega) (by omega) w7 hxw7).mono ?_
          rintro e w8 ⟨rfl, hx8⟩
          have hxw8 := hxw7.trans hx8
          go_wp2_with fail
          refine (HIT.out (ck % 10) (by omega) (by omega) w8 hxw8).mono ?_
          rintro e w9 ⟨rfl, hx9⟩
          have hxw9 := hxw8.trans hx9
          go_wp2
          go_ret
          refine ⟨?_, hxw9⟩
          rw [HTX.out, HCK.out]
          exact congrArg Ending.returned (end_str _ _ _ _)

set_option maxHeartbeats 1000000 in
/-- What Print answers. -/
def PrintRes (r : Round) (w : World) (e : Ending) (w' : World) : Prop := e = .returned (.tuple #[strV (if isRoundB r = true then textT r else []), .int .i64 (if isRoundB r = true then 0 else 2)]) ∧ Ext w w'
theorem print_any (v : Value) (r : Round) (w : World) (hr : RoundAt w v r) (ht : TabOk w) :
    Calls Tryz.prog 18 #[v] w (PrintRes r w) := by
  have HR := Lib.hid (fun w1 (hx : Ext w w1) => isRound_any v r w1 (hr.ext hx))
  have HX := Lib.hid (fun (hB : RoundB r) w1 (hx : Ext w w1) => text_any v r w1 (hr.ext hx) (textB_of hB) (ht.ext hx))
  obtain ⟨hv, rfl, hh⟩ := hr
  obtain ⟨a, c, rfl, h1, h2, h3⟩ := hh.open
  unfold Round.cells at *
  have hb0 := World.alloc_heap_new w (.cells #[.int .i64 r.per, .int .i64 r.lo, .int .i64 r.hi, .int .i64 r.card, .int .i64 r.slack, .slice a r.houses.length c, .int .i64 r.all, .int .i64 r.off] 26)
  have HB := Lib.hid hb0
  clear h3 hh hb0 ht
  cases hb : isRoundB r with
  | false =>
    have HF : Hid (∀ w1, Ext w w1 → PrintRes r w (.returned (.tuple #[.string ⟨#[]⟩, .int .i64 2])) w1) := fun w1 hx => ⟨by rw [hb]; rfl, hx⟩
    rw [hb] at HR
    clear hb
    go_enter Tryz.func18, Tryz.ntmps18
    go_wp2_with (go_at_call 39; refine (HR.out _ ((Ext.refl w).alloc _)).mono ?_; rintro e w1 ⟨rfl, hx1⟩)
    go_ret2
    exact HF.out _ (((Ext.refl w).alloc _).trans hx1)
  | true =>
    have HF : Hid (∀ w1, Ext w w1 → PrintRes r w (.returned (.tuple #[strV (textT r), .int .i64 0])) w1) := fun w1 hx => ⟨by rw [hb]; rfl, hx⟩
    have hB := roundB_of hb
    rw [hb] at HR
    clear hb
    go_enter Tryz.func18, Tryz.ntmps18
    go_wp2_with (first
      | (go_at_call 39; refine (HR.out _ ((Ext.refl w).alloc _)).mono ?_; rintro e w1 ⟨rfl, hx1⟩; obtain ⟨z0, z1, z2, z3, z4, z5, z6, z7⟩ := round_cells ((hx1.block (by simp)).trans HB.out))
      | (go_at_call 50; refine (HX.out hB _ (((Ext.refl w).alloc _).trans hx1)).mono ?_; rintro e w2 ⟨rfl, hx2⟩))
    go_ret2
    exact HF.out _ ((((Ext.refl w).alloc _).trans hx1).trans hx2)
end Go.Proofs.YtbeophjdiddomaaGreatDoor
