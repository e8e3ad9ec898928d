/- Texts: what the lines of a round say, and the contracts of line's parts. -/
import Derived.Test.YtjbeiclfggjbmaaGreatDoorTlay
import Derived.Test.YtjbeiclfggjbmaaGreatDoorWeigh
import Derived.Test.YtjbeiclfggjbmaaGreatDoorPush
import Derived.Shelf.Strconv.Itoa3
import Derived.Shelf.Strings.OnBuilder
import Derived.Lib.AppendIntMem
import Derived.Lib.ItoaLen
namespace Go.Proofs.YtjbeiclfggjbmaaGreatDoor
open Go.RowKit

/-! ### In plain Lean -/
abbrev strV (l : List UInt8) : Value := .string ⟨l.toArray⟩
def numsT (ns : List Int) : List UInt8 := ns.flatMap fun n => 32 :: Lib.itoa n
def wRound : List UInt8 := [114, 111, 117, 110, 100]
def wWeigh : List UInt8 := [119, 101, 105, 103, 104]
def wHouse : List UInt8 := [104, 111, 117, 115, 101]
def wAll : List UInt8 := [97, 108, 108]
def lineT (word : List UInt8) (ns : List Int) : List UInt8 := word ++ numsT ns
def House.nums (h : House) : List Int := [h.out, h.cards, h.full, h.loose, h.miss, h.weighed]
def linesT (r : Round) : List (List UInt8) := lineT wRound [r.per, r.houses.length] :: lineT wWeigh [r.lo, r.hi, r.card, r.slack] :: r.houses.map (fun h => lineT wHouse h.nums) ++ [lineT wAll [r.all, r.off]]
def lineSum (i : Nat) (l : List UInt8) : Nat → Int
  | 0 => 0
  | k + 1 => lineSum i l k + ((l.getD k 0).toNat : Int) * ((k : Int) + 1) * ((i : Int) + 1)
def linesSum (ls : List (List UInt8)) : Nat → Int
  | 0 => 0
  | i + 1 => linesSum ls i + lineSum i (ls.getD i []) (ls.getD i []).length
def checkT (ls : List (List UInt8)) : Int := linesSum ls ls.length % 139
def endT (c : Int) : List UInt8 := [10, 101, 110, 100, 32] ++ Lib.itoa (c / 100) ++ Lib.itoa (c / 10 % 10) ++ Lib.itoa (c % 10) ++ [10]
def textT (r : Round) : List UInt8 := Lib.join (linesT r) [10] ++ endT (checkT (linesT r))

/-! ### The library's functions -/
def TabOk (w : World) : Prop := Lib.TabIs Tryz.prog w "internal/strconv.uint64pow10" .u64 Lib.pow10Tab
theorem TabOk.ext {w w' : World} (h : TabOk w) (k : Ext w w') : TabOk w' := Lib.tabBelow_of_tabIs h w' k
theorem itoa_any (n : Int) (h0 : -9223372036854775808 ≤ n) (h1 : n ≤ 9223372036854775807) (w : World) (ht : TabOk w) :
    Calls Tryz.prog 179 #[.int .i64 n] w fun e w' => e = .returned (strV (Lib.itoa n)) ∧ Ext w w' :=
  (Any.strconv_Itoa Tryz.itoa n h0 h1 w ht).mono fun e w' h => by
    obtain ⟨he, k, os, rfl⟩ := h
    exact ⟨he, Lib.below_grow _ _ (Nat.le_refl _) _ _⟩
theorem joinX : Builder.Extra Tryz.prog Tryz.joinS_ren where
  sizeBuilder := by kernel_rfl
  liesBuilder := by kernel_rfl
  t5 := Tryz.underlying5
  a5 := Tryz.isAgg5
  z5 := Tryz.sizeOf5
  v5 := Tryz.zeroValue5
  infoByte := by kernel_rfl
  cellsByte := by kernel_rfl
  sizeByte := by kernel_rfl
  neB5 := by decide
/-- A slice of strings. -/
def StrsAt (w : World) (v : Value) (ls : List (List UInt8)) : Prop := RowAt w v ls.length (ls.map strV)
theorem StrsAt.ext {w w' : World} {v : Value} {ls : List (List UInt8)} (h : StrsAt w v ls) (k : Ext w w') : StrsAt w' v ls := RowAt.ext h k
theorem join_any (v : Value) (ls : List (List UInt8)) (sep : List UInt8) (w : World) (hv : StrsAt w v ls) (hne : ls ≠ []) (hn : ls.length ≤ 1000) (hlen : (Lib.join ls sep).length ≤ 1000000) :
    Calls Tryz.prog 178 #[v, strV sep] w fun e w' => e = .returned (strV (Lib.join ls sep)) ∧ Ext w w' := by
  obtain ⟨a, c, rfl, h1, h2, h3⟩ := RowAt.open hv
  have hpos : 0 < ls.length := List.length_pos_iff.2 hne
  obtain ⟨bk, o, rfl, hc0⟩ := h3 0 (strV (ls[0])) (by simp [hpos])
  have hm : (ls.map fun l => (⟨l.toArray⟩ : ByteArray)).map (·.data.toList) = ls := by rw [List.map_map]; exact List.map_id' ls
  have := Any.strings_Join Tryz.joinS joinX bk o c (ls.map fun l => ⟨l.toArray⟩) ⟨sep.toArray⟩ w (fun j x hx => by
      rw [List.getElem?_map] at hx
      cases hj : ls[j]? with
      | none => rw [hj] at hx; cases hx
      | some l =>
        rw [hj] at hx; cases hx
        obtain ⟨b', o', e, hc⟩ := h3 j (strV l) (by rw [List.getElem?_map, hj]; rfl)
        cases e; exact hc) (lt_of_cell hc0) (by rw [List.length_map]; omega) (by rw [List.length_map]; exact h1) (by rw [hm]; show (Lib.join ls sep).length ≤ _; omega)
  rw [hm, List.length_map] at this
  exact this
theorem names_any (w : World) : Calls Tryz.prog 197 #[] w fun e w' => e = .returned (.agg #[strV wRound, strV wWeigh, strV wHouse, strV wAll]) ∧ Ext w w' := by
  go_enter Tryz.func197, Tryz.ntmps197
  go_wp2
  exact bodyPost_ret (v := .agg #[strV wRound, strV wWeigh, strV wHouse, strV wAll]) (by simp [results, Tryz.f197, go_sem, wRound, wWeigh, wHouse, wAll]) rfl ⟨rfl, (Ext.refl _).alloc _⟩
def headV (r : Round) (hv : Value) : Value := .agg #[.int .i64 r.per, .int .i64 r.lo, .int .i64 r.hi, .int .i64 r.card, .int .i64 r.slack, hv, .int .i64 r.all, .int .i64 r.off]
theorem head_any (r : Round) (a : Option Addr) (n c : Nat) (w : World) : Calls Tryz.prog 265 #[headV r (.slice a n c)] w fun e w' => ∃ b, e = .returned (.slice (some ⟨b, 0, none⟩) 2 2) ∧ Ext w w' ∧ IntsAt w' (.slice (some ⟨b, 0, none⟩) 2 2) [r.per, n] := by
  unfold headV
  go_enter Tryz.func265, Tryz.ntmps265
  go_wp2
  go_ret
  refine ⟨_, rfl, ((Ext.refl w).alloc _).alloc _, ?_⟩
  have := RowAt.new (w.alloc (.cells #[.int .i64 r.per, .int .i64 r.lo, .int .i64 r.hi, .int .i64 r.card, .int .i64 r.slack, .slice a n c, .int .i64 r.all, .int .i64 r.off] 203)) #[.int .i64 r.per, .int .i64 (n : Int)] 3 2 2 (Nat.le_refl _) (by unfold maxLen; omega)
  rwa [World.size_alloc] at this
/-! ### The lines -/
abbrev z8 : Value := .agg #[.int .i64 0, .int .i64 0, .int .i64 0, .int .i64 0, .int .i64 0, .slice none 0 0, .int .i64 0, .int .i64 0]
abbrev z6 : Value := .agg #[.int .i64 0, .int .i64 0, .int .i64 0, .int .i64 0, .int .i64 0, .int .i64 0]
theorem numsT_len {ns : List Int} (h : ∀ y, y ∈ ns → 0 ≤ y ∧ y ≤ 1000000) : (numsT ns).length ≤ 22 * ns.length := by
  induction ns with
  | nil => simp [numsT]
  | cons x ns ih =>
    have h1 := h x (by simp)
    have h2 := Lib.itoa_length_le x (by omega) (by omega)
    have h3 := ih (fun y hy => h y (by simp [hy]))
    have h4 : numsT (x :: ns) = (32 :: Lib.itoa x) ++ numsT ns := by simp [numsT]
    rw [h4, List.length_append, List.length_cons, List.length_cons]; omega
theorem lineT_len {word : List UInt8} {ns : List Int} (h : ∀ y, y ∈ ns → 0 ≤ y ∧ y ≤ 1000000) : (lineT word ns).length ≤ word.length + 22 * ns.length := by
  unfold lineT; rw [List.length_append]; have := numsT_len h; omega
theorem lineT_step (word : List UInt8) {ns : List Int} {k : Nat} {y : Int} (hy : ns[k]? = some y) : lineT word (ns.take (k + 1)) = lineT word (ns.take k) ++ (32 :: Lib.itoa y) := by
  unfold lineT numsT; rw [List.take_add_one, hy]; simp
theorem str_step (a b : List UInt8) : Value.string (({ data := a.toArray } : ByteArray) ++ (({ data := #[32] } : ByteArray) ++ ({ data := b.toArray } : ByteArray))) = strV (a ++ (32 :: b)) := by
  have e : ∀ x y : List UInt8, (({ data := x.toArray } : ByteArray) ++ ({ data := y.toArray } : ByteArray)) = { data := (x ++ y).toArray } := fun x y => by
    apply ByteArray.ext; simp
  have e2 := e [32] b
  rw [show (({ data := #[32] } : ByteArray) ++ ({ data := b.toArray } : ByteArray)) = { data := ([32] ++ b).toArray } from e2, e]; rfl
theorem ints_cell {W : World} {b n c : Nat} {ns : List Int} (h : IntsAt W (.slice (some ⟨b, 0, none⟩) n c) ns) {k : Nat} {y : Int} (hy : ns[k]? = some y) : W.cell? ⟨b, k, none⟩ = some (.int .i64 y) := by
  obtain ⟨a', c', hv, _, _, _, h3⟩ := h
  obtain ⟨b', o', e, hc⟩ := h3 k (.int .i64 y) (by rw [List.getElem?_map, hy]; rfl)
  injection hv with h1 h2 h3
  rw [e] at h1
  cases h1
  rw [Nat.zero_add] at hc
  exact hc
theorem nm_at0 (w : World) : (Instr.index 224 (.agg #[strV wRound, strV wWeigh, strV wHouse, strV wAll]) (.int .i64 0)).run Tryz.prog w = .ok (strV wRound) w := by kernel_rfl
theorem nm_at1 (w : World) : (Instr.index 224 (.agg #[strV wRound, strV wWeigh, strV wHouse, strV wAll]) (.int .i64 1)).run Tryz.prog w = .ok (strV wWeigh) w := by kernel_rfl
theorem nm_at2 (w : World) : (Instr.index 224 (.agg #[strV wRound, strV wWeigh, strV wHouse, strV wAll]) (.int .i64 2)).run Tryz.prog w = .ok (strV wHouse) w := by kernel_rfl
theorem nm_at3 (w : World) : (Instr.index 224 (.agg #[strV wRound, strV wWeigh, strV wHouse, strV wAll]) (.int .i64 3)).run Tryz.prog w = .ok (strV wAll) w := by kernel_rfl
theorem ta_head1 (p : Value) (w : World) : (Instr.typeAssert (.iface 203 p) 223 204 true).run Tryz.prog w = .ok (.tuple #[z8, .bool false]) w := by kernel_rfl
theorem ta_head2 (p : Value) (w : World) : (Instr.typeAssert (.iface 203 p) 223 206 true).run Tryz.prog w = .ok (.tuple #[z6, .bool false]) w := by kernel_rfl
theorem ta_head3 (p : Value) (w : World) : (Instr.typeAssert (.iface 203 p) 223 207 true).run Tryz.prog w = .ok (.tuple #[z8, .bool false]) w := by kernel_rfl
theorem mt_head (p : Value) (w : World) : (method 396 203 p "nacre/card.numbers").run Tryz.prog w = .ok (265, p) w := by kernel_rfl
set_option maxRecDepth 100000 in
set_option maxHeartbeats 2000000 in
theorem line_head (r : Round) (a : Option Addr) (n c : Nat) (w : World) (ht : TabOk w) (hb : ∀ y, y ∈ [r.per, (n : Int)] → 0 ≤ y ∧ y ≤ 1000000) : Calls Tryz.prog 177 #[.iface 203 (headV r (.slice a n c))] w fun e w' => e = .returned (strV (lineT wRound [r.per, (n : Int)])) ∧ Ext w w' := by
  have HN := Lib.hid (fun w1 => head_any r a n c w1)
  obtain ⟨ns, hns⟩ : ∃ ns, [r.per, (n : Int)] = ns := ⟨_, rfl⟩
  have hlen : ns.length = 2 := by rw [← hns]; rfl
  rw [hns] at hb ⊢
  rw [hns] at HN
  unfold headV at *
  have t1 := ta_head1
  have t2 := ta_head2
  have t3 := ta_head3
  have t5 := nm_at0
  have t6 := mt_head
  have HB := Lib.hid hb
  have HLN := Lib.hid hlen
  have HNS := Lib.hid hns
  clear hb hlen hns
  go_enter Tryz.func177, Tryz.ntmps177
  go_wp2_with (first
    | (go_at_call 197; refine (names_any _).mono ?_; rintro e w1 ⟨rfl, hx1⟩)
    | (go_at_call 265; refine (HN.out _).mono ?_; rintro e w2 ⟨b, rfl, hx2, hI⟩))
  have H3 := Lib.hid (fun (k : Nat) (y : Int) (hy : ns[k]? = some y) => ints_cell hI hy)
  have hx12 := hx1.trans hx2
  clear hI t1 t2 t3 t5 t6
  go_loopw [4, 23] (fun sv i wr => ∃ k : Nat, k ≤ 2 ∧ i = .int .i64 k ∧ sv = strV (lineT wRound (ns.take k)) ∧ Ext w wr ∧ Ext w2 wr) (fun _ i _ => 2 - (intOf i).toNat)
  case atStart => exact ⟨0, Nat.zero_le _, rfl, by simp [lineT, numsT], hx12, Ext.refl _⟩
  case round =>
    obtain ⟨k, hk, rfl, rfl, hx, hx2'⟩ := hrel
    by_cases hlt : k < 2
    · obtain ⟨y, hy⟩ : ∃ y, Hid (ns[k]? = some y) := ⟨_, List.getElem?_eq_getElem (show k < ns.length by rw [HLN.out]; exact hlt)⟩
      have hc := H3.out k y hy.out
      obtain ⟨y0, y1⟩ := HB.out y (List.mem_of_getElem? hy.out)
      have hc' := hx2'.cell hc
      have x2 : decide ((k : Int) < 2) = true := by simp; omega
      have hl1 : (lineT wRound (ns.take k)).length ≤ 1000 := by
        have := lineT_len (word := wRound) (ns := ns.take k) (fun y hy => HB.out y (List.mem_of_mem_take hy))
        have h2 : (ns.take k).length ≤ 2 := by rw [List.length_take, HLN.out]; omega
        have h3 : (wRound).length ≤ 5 := by decide
        omega
      have hl2 := Lib.itoa_length_le y (by omega) (by omega)
      have hd1 : ¬ 9223372036854775807 < 1 + (Lib.itoa y).length := by omega
      have hd2 : ¬ 9223372036854775807 < (lineT wRound (ns.take k)).length + (1 + (Lib.itoa y).length) := by omega
      have HIT := Lib.hid (fun w1 (hx : Ext w w1) => itoa_any y (by omega) (by omega) w1 (ht.ext hx))
      have HST := Lib.hid (lineT_step wRound hy.out)
      clear hc hl1 hl2
      go_wp2_with (go_at_call 179; refine (HIT.out _ hx).mono ?_; rintro e w3 ⟨rfl, hx3⟩)
      exact ⟨⟨k + 1, by omega, by go_num, by rw [HST.out]; exact str_step _ _, hx.trans hx3, hx2'.trans hx3⟩, by simp [intOf]; omega⟩
    · have hke : k = 2 := by omega
      have x2 : decide ((k : Int) < 2) = false := by simp; omega
      have ht2 : ns.take k = ns := List.take_of_length_le (by rw [HLN.out]; omega)
      have HT := Lib.hid ht2
      clear ht2 hke
      go_wp2
      go_ret
      exact ⟨by rw [HT.out]; rfl, hx⟩
theorem scales_any (r : Round) (a : Option Addr) (n c : Nat) (w : World) : Calls Tryz.prog 266 #[headV r (.slice a n c)] w fun e w' => ∃ b, e = .returned (.slice (some ⟨b, 0, none⟩) 4 4) ∧ Ext w w' ∧ IntsAt w' (.slice (some ⟨b, 0, none⟩) 4 4) [r.lo, r.hi, r.card, r.slack] := by
  unfold headV
  go_enter Tryz.func266, Tryz.ntmps266
  go_wp2
  go_ret
  refine ⟨_, rfl, ((Ext.refl w).alloc _).alloc _, ?_⟩
  have := RowAt.new (w.alloc (.cells #[.int .i64 r.per, .int .i64 r.lo, .int .i64 r.hi, .int .i64 r.card, .int .i64 r.slack, .slice a n c, .int .i64 r.all, .int .i64 r.off] 204)) #[.int .i64 r.lo, .int .i64 r.hi, .int .i64 r.card, .int .i64 r.slack] 3 4 4 (Nat.le_refl _) (by unfold maxLen; omega)
  rwa [World.size_alloc] at this
theorem ta_scales1 (p : Value) (w : World) : (Instr.typeAssert (.iface 204 p) 223 204 true).run Tryz.prog w = .ok (.tuple #[p, .bool true]) w := by kernel_rfl
theorem mt_scales (p : Value) (w : World) : (method 396 204 p "nacre/card.numbers").run Tryz.prog w = .ok (266, p) w := by kernel_rfl
set_option maxRecDepth 100000 in
set_option maxHeartbeats 2000000 in
theorem line_scales (r : Round) (a : Option Addr) (n c : Nat) (w : World) (ht : TabOk w) (hb : ∀ y, y ∈ [r.lo, r.hi, r.card, r.slack] → 0 ≤ y ∧ y ≤ 1000000) : Calls Tryz.prog 177 #[.iface 204 (headV r (.slice a n c))] w fun e w' => e = .returned (strV (lineT wWeigh [r.lo, r.hi, r.card, r.slack])) ∧ Ext w w' := by
  have HN := Lib.hid (fun w1 => scales_any r a n c w1)
  obtain ⟨ns, hns⟩ : ∃ ns, [r.lo, r.hi, r.card, r.slack] = ns := ⟨_, rfl⟩
  have hlen : ns.length = 4 := by rw [← hns]; rfl
  rw [hns] at hb ⊢
  rw [hns] at HN
  unfold headV at *
  have t1 := ta_scales1
  have t5 := nm_at1
  have t6 := mt_scales
  have HB := Lib.hid hb
  have HLN := Lib.hid hlen
  have HNS := Lib.hid hns
  clear hb hlen hns
  go_enter Tryz.func177, Tryz.ntmps177
  go_wp2_with (first
    | (go_at_call 197; refine (names_any _).mono ?_; rintro e w1 ⟨rfl, hx1⟩)
    | (go_at_call 266; refine (HN.out _).mono ?_; rintro e w2 ⟨b, rfl, hx2, hI⟩))
  have H3 := Lib.hid (fun (k : Nat) (y : Int) (hy : ns[k]? = some y) => ints_cell hI hy)
  have hx12 := hx1.trans hx2
  clear hI t1 t5 t6
  go_loopw [4, 23] (fun sv i wr => ∃ k : Nat, k ≤ 4 ∧ i = .int .i64 k ∧ sv = strV (lineT wWeigh (ns.take k)) ∧ Ext w wr ∧ Ext w2 wr) (fun _ i _ => 4 - (intOf i).toNat)
  case atStart => exact ⟨0, Nat.zero_le _, rfl, by simp [lineT, numsT], hx12, Ext.refl _⟩
  case round =>
    obtain ⟨k, hk, rfl, rfl, hx, hx2'⟩ := hrel
    by_cases hlt : k < 4
    · obtain ⟨y, hy⟩ : ∃ y, Hid (ns[k]? = some y) := ⟨_, List.getElem?_eq_getElem (show k < ns.length by rw [HLN.out]; exact hlt)⟩
      have hc := H3.out k y hy.out
      obtain ⟨y0, y1⟩ := HB.out y (List.mem_of_getElem? hy.out)
      have hc' := hx2'.cell hc
      have x2 : decide ((k : Int) < 4) = true := by simp; omega
      have hl1 : (lineT wWeigh (ns.take k)).length ≤ 1000 := by
        have := lineT_len (word := wWeigh) (ns := ns.take k) (fun y hy => HB.out y (List.mem_of_mem_take hy))
        have h2 : (ns.take k).length ≤ 4 := by rw [List.length_take, HLN.out]; omega
        have h3 : (wWeigh).length ≤ 5 := by decide
        omega
      have hl2 := Lib.itoa_length_le y (by omega) (by omega)
      have hd1 : ¬ 9223372036854775807 < 1 + (Lib.itoa y).length := by omega
      have hd2 : ¬ 9223372036854775807 < (lineT wWeigh (ns.take k)).length + (1 + (Lib.itoa y).length) := by omega
      have HIT := Lib.hid (fun w1 (hx : Ext w w1) => itoa_any y (by omega) (by omega) w1 (ht.ext hx))
      have HST := Lib.hid (lineT_step wWeigh hy.out)
      clear hc hl1 hl2
      go_wp2_with (go_at_call 179; refine (HIT.out _ hx).mono ?_; rintro e w3 ⟨rfl, hx3⟩)
      exact ⟨⟨k + 1, by omega, by go_num, by rw [HST.out]; exact str_step _ _, hx.trans hx3, hx2'.trans hx3⟩, by simp [intOf]; omega⟩
    · have hke : k = 4 := by omega
      have x2 : decide ((k : Int) < 4) = false := by simp; omega
      have ht2 : ns.take k = ns := List.take_of_length_le (by rw [HLN.out]; omega)
      have HT := Lib.hid ht2
      clear ht2 hke
      go_wp2
      go_ret
      exact ⟨by rw [HT.out]; rfl, hx⟩
theorem lot_any (h : House) (w : World) : Calls Tryz.prog 267 #[.agg h.cells.toArray] w fun e w' => ∃ b, e = .returned (.slice (some ⟨b, 0, none⟩) 6 6) ∧ Ext w w' ∧ IntsAt w' (.slice (some ⟨b, 0, none⟩) 6 6) h.nums := by
  unfold House.cells
  go_enter Tryz.func267, Tryz.ntmps267
  go_wp2
  go_ret
  refine ⟨_, rfl, ((Ext.refl w).alloc _).alloc _, ?_⟩
  have := RowAt.new (w.alloc (.cells #[.int .i64 h.out, .int .i64 h.cards, .int .i64 h.full, .int .i64 h.loose, .int .i64 h.miss, .int .i64 h.weighed] 206)) #[.int .i64 h.out, .int .i64 h.cards, .int .i64 h.full, .int .i64 h.loose, .int .i64 h.miss, .int .i64 h.weighed] 3 6 6 (Nat.le_refl _) (by unfold maxLen; omega)
  rwa [World.size_alloc] at this
theorem ta_lot1 (p : Value) (w : World) : (Instr.typeAssert (.iface 206 p) 223 204 true).run Tryz.prog w = .ok (.tuple #[z8, .bool false]) w := by kernel_rfl
theorem ta_lot2 (p : Value) (w : World) : (Instr.typeAssert (.iface 206 p) 223 206 true).run Tryz.prog w = .ok (.tuple #[p, .bool true]) w := by kernel_rfl
theorem mt_lot (p : Value) (w : World) : (method 396 206 p "nacre/card.numbers").run Tryz.prog w = .ok (267, p) w := by kernel_rfl
set_option maxRecDepth 100000 in
set_option maxHeartbeats 2000000 in
theorem line_lot (h : House) (w : World) (ht : TabOk w) (hb : ∀ y, y ∈ h.nums → 0 ≤ y ∧ y ≤ 1000000) : Calls Tryz.prog 177 #[.iface 206 (.agg h.cells.toArray)] w fun e w' => e = .returned (strV (lineT wHouse h.nums)) ∧ Ext w w' := by
  have HN := Lib.hid (fun w1 => lot_any h w1)
  obtain ⟨ns, hns⟩ : ∃ ns, h.nums = ns := ⟨_, rfl⟩
  have hlen : ns.length = 6 := by rw [← hns]; rfl
  rw [hns] at hb ⊢
  rw [hns] at HN
  unfold House.cells at *
  have t1 := ta_lot1
  have t2 := ta_lot2
  have t5 := nm_at2
  have t6 := mt_lot
  have HB := Lib.hid hb
  have HLN := Lib.hid hlen
  have HNS := Lib.hid hns
  clear hb hlen hns
  go_enter Tryz.func177, Tryz.ntmps177
  go_wp2_with (first
    | (go_at_call 197; refine (names_any _).mono ?_; rintro e w1 ⟨rfl, hx1⟩)
    | (go_at_call 267; refine (HN.out _).mono ?_; rintro e w2 ⟨b, rfl, hx2, hI⟩))
  have H3 := Lib.hid (fun (k : Nat) (y : Int) (hy : ns[k]? = some y) => ints_cell hI hy)
  have hx12 := hx1.trans hx2
  clear hI t1 t2 t5 t6
  go_loopw [4, 23] (fun sv i wr => ∃ k : Nat, k ≤ 6 ∧ i = .int .i64 k ∧ sv = strV (lineT wHouse (ns.take k)) ∧ Ext w wr ∧ Ext w2 wr) (fun _ i _ => 6 - (intOf i).toNat)
  case atStart => exact ⟨0, Nat.zero_le _, rfl, by simp [lineT, numsT], hx12, Ext.refl _⟩
  case round =>
    obtain ⟨k, hk, rfl, rfl, hx, hx2'⟩ := hrel
    by_cases hlt : k < 6
    · obtain ⟨y, hy⟩ : ∃ y, Hid (ns[k]? = some y) := ⟨_, List.getElem?_eq_getElem (show k < ns.length by rw [HLN.out]; exact hlt)⟩
      have hc := H3.out k y hy.out
      obtain ⟨y0, y1⟩ := HB.out y (List.mem_of_getElem? hy.out)
      have hc' := hx2'.cell hc
      have x2 : decide ((k : Int) < 6) = true := by simp; omega
      have hl1 : (lineT wHouse (ns.take k)).length ≤ 1000 := by
        have := lineT_len (word := wHouse) (ns := ns.take k) (fun y hy => HB.out y (List.mem_of_mem_take hy))
        have h2 : (ns.take k).length ≤ 6 := by rw [List.length_take, HLN.out]; omega
        have h3 : (wHouse).length ≤ 5 := by decide
        omega
      have hl2 := Lib.itoa_length_le y (by omega) (by omega)
      have hd1 : ¬ 9223372036854775807 < 1 + (Lib.itoa y).length := by omega
      have hd2 : ¬ 9223372036854775807 < (lineT wHouse (ns.take k)).length + (1 + (Lib.itoa y).length) := by omega
      have HIT := Lib.hid (fun w1 (hx : Ext w w1) => itoa_any y (by omega) (by omega) w1 (ht.ext hx))
      have HST := Lib.hid (lineT_step wHouse hy.out)
      clear hc hl1 hl2
      go_wp2_with (go_at_call 179; refine (HIT.out _ hx).mono ?_; rintro e w3 ⟨rfl, hx3⟩)
      exact ⟨⟨k + 1, by omega, by go_num, by rw [HST.out]; exact str_step _ _, hx.trans hx3, hx2'.trans hx3⟩, by simp [intOf]; omega⟩
    · have hke : k = 6 := by omega
      have x2 : decide ((k : Int) < 6) = false := by simp; omega
      have ht2 : ns.take k = ns := List.take_of_length_le (by rw [HLN.out]; omega)
      have HT := Lib.hid ht2
      clear ht2 hke
      go_wp2
      go_ret
      exact ⟨by rw [HT.out]; rfl, hx⟩
theorem foot_any (r : Round) (a : Option Addr) (n c : Nat) (w : World) : Calls Tryz.prog 268 #[headV r (.slice a n c)] w fun e w' => ∃ b, e = .returned (.slice (some ⟨b, 0, none⟩) 2 2) ∧ Ext w w' ∧ IntsAt w' (.slice (some ⟨b, 0, none⟩) 2 2) [r.all, r.off] := by
  unfold headV
  go_enter Tryz.func268, Tryz.ntmps268
  go_wp2
  go_ret
  refine ⟨_, rfl, ((Ext.refl w).alloc _).alloc _, ?_⟩
  have := RowAt.new (w.alloc (.cells #[.int .i64 r.per, .int .i64 r.lo, .int .i64 r.hi, .int .i64 r.card, .int .i64 r.slack, .slice a n c, .int .i64 r.all, .int .i64 r.off] 207)) #[.int .i64 r.all, .int .i64 r.off] 3 2 2 (Nat.le_refl _) (by unfold maxLen; omega)
  rwa [World.size_alloc] at this
theorem ta_foot1 (p : Value) (w : World) : (Instr.typeAssert (.iface 207 p) 223 204 true).run Tryz.prog w = .ok (.tuple #[z8, .bool false]) w := by kernel_rfl
theorem ta_foot2 (p : Value) (w : World) : (Instr.typeAssert (.iface 207 p) 223 206 true).run Tryz.prog w = .ok (.tuple #[z6, .bool false]) w := by kernel_rfl
theorem ta_foot3 (p : Value) (w : World) : (Instr.typeAssert (.iface 207 p) 223 207 true).run Tryz.prog w = .ok (.tuple #[p, .bool true]) w := by kernel_rfl
theorem mt_foot (p : Value) (w : World) : (method 396 207 p "nacre/card.numbers").run Tryz.prog w = .ok (268, p) w := by kernel_rfl
set_option maxRecDepth 100000 in
set_option maxHeartbeats 2000000 in
theorem line_foot (r : Round) (a : Option Addr) (n c : Nat) (w : World) (ht : TabOk w) (hb : ∀ y, y ∈ [r.all, r.off] → 0 ≤ y ∧ y ≤ 1000000) : Calls Tryz.prog 177 #[.iface 207 (headV r (.slice a n c))] w fun e w' => e = .returned (strV (lineT wAll [r.all, r.off])) ∧ Ext w w' := by
  have HN := Lib.hid (fun w1 => foot_any r a n c w1)
  obtain ⟨ns, hns⟩ : ∃ ns, [r.all, r.off] = ns := ⟨_, rfl⟩
  have hlen : ns.length = 2 := by rw [← hns]; rfl
  rw [hns] at hb ⊢
  rw [hns] at HN
  unfold headV at *
  have t1 := ta_foot1
  have t2 := ta_foot2
  have t3 := ta_foot3
  have t5 := nm_at3
  have t6 := mt_foot
  have HB := Lib.hid hb
  have HLN := Lib.hid hlen
  have HNS := Lib.hid hns
  clear hb hlen hns
  go_enter Tryz.func177, Tryz.ntmps177
  go_wp2_with (first
    | (go_at_call 197; refine (names_any _).mono ?_; rintro e w1 ⟨rfl, hx1⟩)
    | (go_at_call 268; refine (HN.out _).mono ?_; rintro e w2 ⟨b, rfl, hx2, hI⟩))
  have H3 := Lib.hid (fun (k : Nat) (y : Int) (hy : ns[k]? = some y) => ints_cell hI hy)
  have hx12 := hx1.trans hx2
  clear hI t1 t2 t3 t5 t6
  go_loopw [4, 23] (fun sv i wr => ∃ k : Nat, k ≤ 2 ∧ i = .int .i64 k ∧ sv = strV (lineT wAll (ns.take k)) ∧ Ext w wr ∧ Ext w2 wr) (fun _ i _ => 2 - (intOf i).toNat)
  case atStart => exact ⟨0, Nat.zero_le _, rfl, by simp [lineT, numsT], hx12, Ext.refl _⟩
  case round =>
    obtain ⟨k, hk, rfl, rfl, hx, hx2'⟩ := hrel
    by_cases hlt : k < 2
    · obtain ⟨y, hy⟩ : ∃ y, Hid (ns[k]? = some y) := ⟨_, List.getElem?_eq_getElem (show k < ns.length by rw [HLN.out]; exact hlt)⟩
      have hc := H3.out k y hy.out
      obtain ⟨y0, y1⟩ := HB.out y (List.mem_of_getElem? hy.out)
      have hc' := hx2'.cell hc
      have x2 : decide ((k : Int) < 2) = true := by simp; omega
      have hl1 : (lineT wAll (ns.take k)).length ≤ 1000 := by
        have := lineT_len (word := wAll) (ns := ns.take k) (fun y hy => HB.out y (List.mem_of_mem_take hy))
        have h2 : (ns.take k).length ≤ 2 := by rw [List.length_take, HLN.out]; omega
        have h3 : (wAll).length ≤ 5 := by decide
        omega
      have hl2 := Lib.itoa_length_le y (by omega) (by omega)
      have hd1 : ¬ 9223372036854775807 < 1 + (Lib.itoa y).length := by omega
      have hd2 : ¬ 9223372036854775807 < (lineT wAll (ns.take k)).length + (1 + (Lib.itoa y).length) := by omega
      have HIT := Lib.hid (fun w1 (hx : Ext w w1) => itoa_any y (by omega) (by omega) w1 (ht.ext hx))
      have HST := Lib.hid (lineT_step wAll hy.out)
      clear hc hl1 hl2
      go_wp2_with (go_at_call 179; refine (HIT.out _ hx).mono ?_; rintro e w3 ⟨rfl, hx3⟩)
      exact ⟨⟨k + 1, by omega, by go_num, by rw [HST.out]; exact str_step _ _, hx.trans hx3, hx2'.trans hx3⟩, by simp [intOf]; omega⟩
    · have hke : k = 2 := by omega
      have x2 : decide ((k : Int) < 2) = false := by simp; omega
      have ht2 : ns.take k = ns := List.take_of_length_le (by rw [HLN.out]; omega)
      have HT := Lib.hid ht2
      clear ht2 hke
      go_wp2
      go_ret
      exact ⟨by rw [HT.out]; rfl, hx⟩
end Go.Proofs.YtjbeiclfggjbmaaGreatDoor
