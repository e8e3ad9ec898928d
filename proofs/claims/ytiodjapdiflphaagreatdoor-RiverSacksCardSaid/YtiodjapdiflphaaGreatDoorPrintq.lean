/- The library's functions that the program calls, as the shelf's contracts ask for them: the numbers of functions and types, field by field. -/
import Derived.Shelf.LaysM
import Derived.Shelf.Lays
import Derived.Shelf.Strings.BuilderX
import Derived.Test.YtiodjapdiflphaaGreatDoorProg
import Derived.Test.YtiodjapdiflphaaGreatDoorBookq
import Derived.Test.YtiodjapdiflphaaGreatDoorState
import Derived.Shelf.Strconv.Itoa3
import Derived.Shelf.Strings.OnBuilder
import Derived.Lib.AppendIntMem
import Derived.Lib.ItoaLen
import Derived.IntWalk
import Derived.Test.YtiodjapdiflphaaGreatDoorLook
import Derived.Test.YtiodjapdiflphaaGreatDoorTwoi
namespace Go.Proofs.YtiodjapdiflphaaGreatDoor
open Go.Shelf
def Tryz.itoa_ren : Go.Shelf.Ren := ⟨fun | 171 => 110 | 243 => 133 | 246 => 155 | 283 => 166 | 284 => 167 | 285 => 168 | 286 => 169 | 129 => 144 | 317 => 172 | 318 => 173 | 319 => 174 | 320 => 175 | 337 => 176 | 338 => 177 | n => n, fun | 3 => 3 | 9 => 9 | 2 => 2 | 4 => 4 | 171 => 245 | 0 => 0 | 53 => 226 | 37 => 206 | 5 => 5 | 173 => 247 | 212 => 253 | 51 => 224 | 20 => 20 | 213 => 254 | 46 => 101 | 232 => 255 | 233 => 256 | n => n, fun | 17 => 1 | 18 => 2 | 19 => 3 | n => n⟩
theorem Tryz.itoa : Go.Proofs.LaysM.n171 Tryz.prog Tryz.itoa_ren := {
 mixed := by kernel_rfl
 f129 := Tryz.func144.trans (congrArg some (by kernel_rfl))
 f171 := Tryz.func110.trans (congrArg some (by kernel_rfl))
 f243 := Tryz.func133.trans (congrArg some (by kernel_rfl))
 f246 := Tryz.func155.trans (congrArg some (by kernel_rfl))
 f283 := Tryz.func166.trans (congrArg some (by kernel_rfl))
 f284 := Tryz.func167.trans (congrArg some (by kernel_rfl))
 f285 := Tryz.func168.trans (congrArg some (by kernel_rfl))
 f286 := Tryz.func169.trans (congrArg some (by kernel_rfl))
 f317 := Tryz.func172.trans (congrArg some (by kernel_rfl))
 f318 := Tryz.func173.trans (congrArg some (by kernel_rfl))
 f319 := Tryz.func174.trans (congrArg some (by kernel_rfl))
 f320 := Tryz.func175.trans (congrArg some (by kernel_rfl))
 f337 := Tryz.func176.trans (congrArg some (by kernel_rfl))
 f338 := Tryz.func177.trans (congrArg some (by kernel_rfl))
 t0 := Tryz.underlying0
 a0 := Tryz.isAgg0
 z0 := Tryz.sizeOf0
 v0 := Tryz.zeroValue0
 t2 := Tryz.underlying2
 a2 := Tryz.isAgg2
 z2 := Tryz.sizeOf2
 v2 := Tryz.zeroValue2
 t3 := Tryz.underlying3
 a3 := Tryz.isAgg3
 z3 := Tryz.sizeOf3
 v3 := Tryz.zeroValue3
 t4 := Tryz.underlying4
 a4 := Tryz.isAgg4
 z4 := Tryz.sizeOf4
 v4 := Tryz.zeroValue4
 t5 := Tryz.underlying5
 a5 := Tryz.isAgg5
 z5 := Tryz.sizeOf5
 v5 := Tryz.zeroValue5
 t9 := Tryz.underlying9
 a9 := Tryz.isAgg9
 z9 := Tryz.sizeOf9
 v9 := Tryz.zeroValue9
 t20 := Tryz.underlying20
 a20 := Tryz.isAgg20
 z20 := Tryz.sizeOf20
 v20 := Tryz.zeroValue20
 t37 := Tryz.underlying206
 a37 := Tryz.isAgg206
 z37 := Tryz.sizeOf206
 v37 := Tryz.zeroValue206
 t46 := Tryz.underlying101
 a46 := Tryz.isAgg101
 z46 := Tryz.sizeOf101
 v46 := Tryz.zeroValue101
 t51 := Tryz.underlying224
 a51 := Tryz.isAgg224
 z51 := Tryz.sizeOf224
 v51 := Tryz.zeroValue224
 t53 := Tryz.underlying226
 a53 := Tryz.isAgg226
 z53 := Tryz.sizeOf226
 v53 := Tryz.zeroValue226
 t171 := Tryz.underlying245
 a171 := Tryz.isAgg245
 z171 := Tryz.sizeOf245
 v171 := Tryz.zeroValue245
 t173 := Tryz.underlying247
 a173 := Tryz.isAgg247
 z173 := Tryz.sizeOf247
 v173 := Tryz.zeroValue247
 t212 := Tryz.underlying253
 a212 := Tryz.isAgg253
 z212 := Tryz.sizeOf253
 v212 := Tryz.zeroValue253
 t213 := Tryz.underlying254
 a213 := Tryz.isAgg254
 z213 := Tryz.sizeOf254
 t232 := Tryz.underlying255
 a232 := Tryz.isAgg255
 z232 := Tryz.sizeOf255
 v232 := Tryz.zeroValue255
 t233 := Tryz.underlying256
 a233 := Tryz.isAgg256
 z233 := Tryz.sizeOf256
 v233 := Tryz.zeroValue256
 g17 := by kernel_rfl
 g18 := by kernel_rfl
 g19 := by kernel_rfl
 i0 := by kernel_rfl
 i2 := by kernel_rfl
 i3 := by kernel_rfl
 i4 := by kernel_rfl
 i5 := by kernel_rfl
 i9 := by kernel_rfl
 i20 := by kernel_rfl
 i37 := by kernel_rfl
 i46 := by kernel_rfl
 i51 := by kernel_rfl
 i53 := by kernel_rfl
 i171 := by kernel_rfl
 i173 := by kernel_rfl
 i212 := by kernel_rfl
 i232 := by kernel_rfl
 i233 := by kernel_rfl
 m17 := by kernel_rfl
 m18 := by kernel_rfl
 m19 := by kernel_rfl }
def Tryz.joinS_ren : Go.Shelf.Ren := ⟨fun | 156 => 109 | 165 => 130 | 166 => 131 | 169 => 132 | 240 => 153 | 241 => 154 | 276 => 164 | 277 => 165 | n => n, fun | 31 => 185 | 9 => 9 | 3 => 3 | 4 => 4 | 0 => 0 | 20 => 20 | 72 => 208 | 76 => 212 | 70 => 205 | 37 => 206 | 75 => 211 | 127 => 232 | 164 => 242 | 5 => 5 | 80 => 214 | n => n, fun | n => n⟩
theorem Tryz.joinS : Go.Proofs.Lays.n156 Tryz.prog Tryz.joinS_ren := {
 mixed := by kernel_rfl
 f156 := Tryz.func109.trans (congrArg some (by kernel_rfl))
 f165 := Tryz.func130.trans (congrArg some (by kernel_rfl))
 f166 := Tryz.func131.trans (congrArg some (by kernel_rfl))
 f169 := Tryz.func132.trans (congrArg some (by kernel_rfl))
 f240 := Tryz.func153.trans (congrArg some (by kernel_rfl))
 f241 := Tryz.func154.trans (congrArg some (by kernel_rfl))
 f276 := Tryz.func164.trans (congrArg some (by kernel_rfl))
 f277 := Tryz.func165.trans (congrArg some (by kernel_rfl))
 t0 := Tryz.underlying0
 a0 := Tryz.isAgg0
 z0 := Tryz.sizeOf0
 v0 := Tryz.zeroValue0
 t3 := Tryz.underlying3
 a3 := Tryz.isAgg3
 z3 := Tryz.sizeOf3
 v3 := Tryz.zeroValue3
 t4 := Tryz.underlying4
 a4 := Tryz.isAgg4
 z4 := Tryz.sizeOf4
 v4 := Tryz.zeroValue4
 t9 := Tryz.underlying9
 a9 := Tryz.isAgg9
 z9 := Tryz.sizeOf9
 v9 := Tryz.zeroValue9
 t20 := Tryz.underlying20
 a20 := Tryz.isAgg20
 z20 := Tryz.sizeOf20
 v20 := Tryz.zeroValue20
 t31 := Tryz.underlying185
 a31 := Tryz.isAgg185
 z31 := Tryz.sizeOf185
 v31 := Tryz.zeroValue185
 t37 := Tryz.underlying206
 a37 := Tryz.isAgg206
 z37 := Tryz.sizeOf206
 v37 := Tryz.zeroValue206
 t70 := Tryz.underlying205
 a70 := Tryz.isAgg205
 z70 := Tryz.sizeOf205
 v70 := Tryz.zeroValue205
 t72 := Tryz.underlying208
 a72 := Tryz.isAgg208
 z72 := Tryz.sizeOf208
 v72 := Tryz.zeroValue208
 t75 := Tryz.underlying211
 a75 := Tryz.isAgg211
 z75 := Tryz.sizeOf211
 v75 := Tryz.zeroValue211
 t76 := Tryz.underlying212
 a76 := Tryz.isAgg212
 z76 := Tryz.sizeOf212
 v76 := Tryz.zeroValue212
 t127 := Tryz.underlying232
 a127 := Tryz.isAgg232
 z127 := Tryz.sizeOf232
 v127 := Tryz.zeroValue232
 t164 := Tryz.underlying242
 a164 := Tryz.isAgg242
 z164 := Tryz.sizeOf242
 v164 := Tryz.zeroValue242 }
end Go.Proofs.YtiodjapdiflphaaGreatDoor
/- Texts: what the library's functions give; line. -/
namespace Go.Proofs.YtiodjapdiflphaaGreatDoor
open Go.RowKit
/-! ### In plain Lean -/
abbrev strV (l : List UInt8) : Value := .string ⟨l.toArray⟩
def numsT (ns : List Int) : List UInt8 := ns.flatMap fun n => 32 :: Lib.itoa n
def wBook : List UInt8 := [98, 111, 111, 107]
def wRiver : List UInt8 := [114, 105, 118, 101, 114]
def lineT (word : List UInt8) (ns : List Int) : List UInt8 := word ++ numsT ns
def River.nums (r : River) : List Int := r.vary :: r.closed :: r.grow.flatMap fun s => [s.1, s.2]
def linesT (b : Book) : List (List UInt8) := lineT wBook [b.years, b.rivers.length] :: b.rivers.map fun r => lineT wRiver r.nums
def lineSum (i : Nat) (l : List UInt8) : Nat → Int
 | 0 => 0
 | k + 1 => lineSum i l k + ((l.getD k 0).toNat : Int) * ((k : Int) + 1) * ((i : Int) + 1)
def linesSum (ls : List (List UInt8)) : Nat → Int
 | 0 => 0
 | i + 1 => linesSum ls i + lineSum i (ls.getD i []) (ls.getD i []).length
def checkT (ls : List (List UInt8)) : Int := linesSum ls ls.length % 131
def endT (c : Int) : List UInt8 := [10, 101, 110, 100, 32] ++ Lib.itoa (c / 100) ++ Lib.itoa (c / 10 % 10) ++ Lib.itoa (c % 10) ++ [10]
def textT (b : Book) : List UInt8 := Lib.join (linesT b) [10] ++ endT (checkT (linesT b))
/-! ### The library's functions -/
def TabOk (w : World) : Prop := Lib.TabIs Tryz.prog w "internal/strconv.uint64pow10" .u64 Lib.pow10Tab
theorem TabOk.ext {w w' : World} (h : TabOk w) (k : Ext w w') : TabOk w' := Lib.tabBelow_of_tabIs h w' k
theorem itoa_any (n : Int) (h0 : -9223372036854775808 ≤ n) (h1 : n ≤ 9223372036854775807) (w : World) (ht : TabOk w) :
  Calls Tryz.prog 110 #[.int .i64 n] w fun e w' => e = .returned (strV (Lib.itoa n)) ∧ Ext w w' :=
 (Any.strconv_Itoa Tryz.itoa n h0 h1 w ht).mono fun e w' h => by
  obtain ⟨he, k, os, rfl⟩ := h
  exact ⟨he, Lib.below_grow _ _ (Nat.le_refl _) _ _⟩
theorem joinX : Builder.Extra Tryz.prog Tryz.joinS_ren where
 sizeBuilder := by kernel_rfl
 liesBuilder := by kernel_rfl
 t5 := Tryz.underlying5
 a5 := Tryz.isAgg5
 z5 := Tryz.sizeOf5
 v5 := Tryz.zeroValue5
 infoByte := by kernel_rfl
 cellsByte := by kernel_rfl
 sizeByte := by kernel_rfl
 neB5 := by decide
/-- A slice of strings. -/
def StrsAt (w : World) (v : Value) (ls : List (List UInt8)) : Prop := RowAt w v ls.length (ls.map strV)
theorem join_any (v : Value) (ls : List (List UInt8)) (sep : List UInt8) (w : World) (hv : StrsAt w v ls) (hne : ls ≠ []) (hn : ls.length ≤ 1000) (hlen : (Lib.join ls sep).length ≤ 2000000) :
  Calls Tryz.prog 109 #[v, strV sep] w fun e w' => e = .returned (strV (Lib.join ls sep)) ∧ Ext w w' := by
 obtain ⟨a, c, rfl, h1, h2, h3⟩ := RowAt.open hv
 have hpos : 0 < ls.length := List.length_pos_iff.2 hne
 obtain ⟨bk, o, rfl, hc0⟩ := h3 0 (strV (ls[0])) (by simp [hpos])
 have hm : (ls.map fun l => (⟨l.toArray⟩ : ByteArray)).map (·.data.toList) = ls := by rw [List.map_map]; exact List.map_id' ls
 have := Any.strings_Join Tryz.joinS joinX bk o c (ls.map fun l => ⟨l.toArray⟩) ⟨sep.toArray⟩ w (fun j x hx => by
   rw [List.getElem?_map] at hx
   cases hj : ls[j]? with
   | none => rw [hj] at hx; cases hx
   | some l =>
    rw [hj] at hx; cases hx
    obtain ⟨b', o', e, hc⟩ := h3 j (strV l) (by rw [List.getElem?_map, hj]; rfl)
    cases e; exact hc) (lt_of_cell hc0) (by rw [List.length_map]; omega) (by rw [List.length_map]; exact h1) (by rw [hm]; show (Lib.join ls sep).length ≤ _; omega)
 rw [hm, List.length_map] at this
 exact this
theorem numsT_len {ns : List Int} (h : ∀ y, y ∈ ns → 0 ≤ y ∧ y ≤ 2000000) : (numsT ns).length ≤ 22 * ns.length := by
 induction ns with
 | nil => simp [numsT]
 | cons x ns ih =>
  have h1 := h x (by simp)
  have h2 := Lib.itoa_length_le x (by omega) (by omega)
  have h3 := ih (fun y hy => h y (by simp [hy]))
  have h4 : numsT (x :: ns) = (32 :: Lib.itoa x) ++ numsT ns := by simp [numsT]
  rw [h4, List.length_append, List.length_cons, List.length_cons]; omega
theorem lineT_len {word : List UInt8} {ns : List Int} (h : ∀ y, y ∈ ns → 0 ≤ y ∧ y ≤ 2000000) : (lineT word ns).length ≤ word.length + 22 * ns.length := by
 unfold lineT; rw [List.length_append]; have := numsT_len h; omega
theorem lineT_step (word : List UInt8) {ns : List Int} {k : Nat} {y : Int} (hy : ns[k]? = some y) : lineT word (ns.take (k + 1)) = lineT word (ns.take k) ++ (32 :: Lib.itoa y) := by
 unfold lineT numsT; rw [List.take_add_one, hy]; simp
theorem str_step (a b : List UInt8) : Value.string (({ data := a.toArray } : ByteArray) ++ (({ data := #[32] } : ByteArray) ++ ({ data := b.toArray } : ByteArray))) = strV (a ++ (32 :: b)) := by
 have e : ∀ x y : List UInt8, (({ data := x.toArray } : ByteArray) ++ ({ data := y.toArray } : ByteArray)) = { data := (x ++ y).toArray } := fun x y => by
  apply ByteArray.ext; simp
 have e2 := e [32] b
 rw [show (({ data := #[32] } : ByteArray) ++ ({ data := b.toArray } : ByteArray)) = { data := ([32] ++ b).toArray } from e2, e]; rfl
set_option maxRecDepth 100000 in
set_option maxHeartbeats 2000000 in
theorem line_any (word : List UInt8) (v : Value) (ns : List Int) (w : World) (ht : TabOk w) (hv : IntsAt w v ns) (hb : ∀ y, y ∈ ns → 0 ≤ y ∧ y ≤ 2000000) (hn : ns.length ≤ 302) (hwd : word.length ≤ 20) :
  Calls Tryz.prog 108 #[strV word, v] w fun e w' => e = .returned (strV (lineT word ns)) ∧ Ext w w' := by
 obtain ⟨a, c, rfl, h1, h2, h3⟩ := hv.open
 have H3 := Lib.hid h3
 have HB := Lib.hid hb
 clear h3 hv hb
 go_enter Tryz.func108, Tryz.ntmps108
 go_wp2
 go_loopw [0, 9] (fun sv i wr => ∃ k : Nat, k ≤ ns.length ∧ i = .int .i64 k ∧ sv = strV (lineT word (ns.take k)) ∧ Ext w wr) (fun _ i _ => ns.length - (intOf i).toNat)
 case atStart => exact ⟨0, Nat.zero_le _, rfl, by simp [lineT, numsT], Ext.refl _⟩
 case round =>
  obtain ⟨k, hk, rfl, rfl, hx⟩ := hrel
  by_cases hlt : k < ns.length
  ·obtain ⟨b, o, y, rfl, hy, hc⟩ := H3.out k hlt
   obtain ⟨y0, y1⟩ := HB.out y (List.mem_of_getElem? hy.out)
   have hc' := hx.cell hc
   have x2 : decide ((k : Int) < (ns.length : Int)) = true := by simpa using hlt
   have i1 : (0 : Int) ≤ (k : Int) := by omega
   have i2 : (k : Int) < (ns.length : Int) := by omega
   have hl1 : (lineT word (ns.take k)).length ≤ 7000 := by
    have := lineT_len (word := word) (ns := ns.take k) (fun y hy => HB.out y (List.mem_of_mem_take hy))
    have h2 : (ns.take k).length ≤ 302 := by rw [List.length_take]; omega
    omega
   have hl2 := Lib.itoa_length_le y (by omega) (by omega)
   have hd1 : ¬ 9223372036854775807 < 1 + (Lib.itoa y).length := by omega
   have hd2 : ¬ 9223372036854775807 < (lineT word (ns.take k)).length + (1 + (Lib.itoa y).length) := by omega
   have HIT := Lib.hid (fun w1 (hx : Ext w w1) => itoa_any y (by omega) (by omega) w1 (ht.ext hx))
   have HST := Lib.hid (lineT_step word hy.out)
   have HX := Lib.hid hx
   clear hc hl1 hl2 hx
   go_wp2_with (go_at_call 110; refine (HIT.out _ HX.out).mono ?_; rintro e w3 ⟨rfl, hx3⟩)
   exact ⟨⟨k + 1, by omega, by go_num, by rw [HST.out]; exact str_step _ _, HX.out.trans hx3⟩, by simp [intOf]; omega⟩
  ·have x2 : decide ((k : Int) < (ns.length : Int)) = false := by simpa using hlt
   have ht2 : ns.take k = ns := List.take_of_length_le (by omega)
   rw [ht2]
   go_wp2
   go_ret
   exact ⟨rfl, hx⟩
end Go.Proofs.YtiodjapdiflphaaGreatDoor
/- Texts: plain facts. -/
namespace Go.Proofs.YtiodjapdiflphaaGreatDoor
open Go.RowKit
def linesUp (b : Book) (k : Nat) : List (List UInt8) := lineT wBook [b.years, b.rivers.length] :: (b.rivers.take k).map fun r => lineT wRiver r.nums
theorem linesUp_succ {b : Book} {k : Nat} {r : River} (hk : b.rivers[k]? = some r) : linesUp b (k + 1) = linesUp b k ++ [lineT wRiver r.nums] := by
 unfold linesUp; rw [List.take_add_one, hk]; simp
theorem linesUp_end (b : Book) : linesUp b b.rivers.length = linesT b := by unfold linesUp linesT; rw [List.take_length]
theorem itoa_small : ∀ n : Nat, n < 100 → (Lib.itoa (n : Int)).length ≤ 2 := by decide +kernel
theorem nums_small {ns : List Int} (h : ∀ y, y ∈ ns → 0 ≤ y ∧ y < 100) : (numsT ns).length ≤ 3 * ns.length := by
 induction ns with
 | nil => simp [numsT]
 | cons x ns ih =>
  have h1 := h x (by simp)
  obtain ⟨n, rfl⟩ : ∃ n : Nat, x = n := ⟨x.toNat, by omega⟩
  have h2 := itoa_small n (by omega)
  have h3 := ih (fun y hy => h y (by simp [hy]))
  have h4 : numsT ((n : Int) :: ns) = (32 :: Lib.itoa n) ++ numsT ns := by simp [numsT]
  rw [h4, List.length_append, List.length_cons, List.length_cons]; omega
theorem river_nums {b : Book} (hB : BookB b) {r : River} (hr : r ∈ b.rivers) : (∀ y, y ∈ r.nums → 0 ≤ y ∧ y < 100) ∧ r.nums.length = 2 + 2 * r.grow.length ∧ r.grow.length ≤ 6 := by
 have h1 := hB.vary r hr
 have h2 := hB.closed r hr
 have h3 := hB.span r hr
 have h4 := hB.len r hr
 have h5 := hB.y2
 have h6 := hB.y1
 have hp : (2 : Int) ^ b.years.toNat ≤ 64 := by
  rcases (by omega : b.years.toNat = 1 ∨ b.years.toNat = 2 ∨ b.years.toNat = 3 ∨ b.years.toNat = 4 ∨ b.years.toNat = 5 ∨ b.years.toNat = 6) with h | h | h | h | h | h <;> rw [h] <;> decide
 refine ⟨fun y hy => ?_, ?_, by omega⟩
 ·unfold River.nums at hy
  rw [List.mem_cons, List.mem_cons, List.mem_flatMap] at hy
  rcases hy with rfl | rfl | ⟨s, hs, hy⟩
  ·omega
  ·omega
  ·have := h3 s hs
   simp at hy
   rcases hy with rfl | rfl <;> omega
 ·unfold River.nums
  rw [List.length_cons, List.length_cons]
  have : ∀ l : List (Int × Int), (l.flatMap fun s => [s.1, s.2]).length = 2 * l.length := by
   intro l
   induction l with
   | nil => rfl
   | cons x l ih => rw [List.flatMap_cons, List.length_append, ih, List.length_cons, List.length_cons, List.length_cons, List.length_nil]; omega
  rw [this]; omega
theorem linesT_short {b : Book} (hB : BookB b) : ∀ l, l ∈ linesT b → l.length ≤ 300 := by
 intro l hl
 unfold linesT at hl
 rw [List.mem_cons, List.mem_map] at hl
 rcases hl with rfl | ⟨r, hr, rfl⟩
 ·have := nums_small (ns := [b.years, (b.rivers.length : Int)]) (fun y hy => by
   have h1 := hB.y1
   have h2 := hB.y2
   have h3 := hB.n2
   simp at hy
   rcases hy with rfl | rfl <;> omega)
  unfold lineT
  rw [List.length_append]
  have h3 : wBook.length = 4 := rfl
  simp only [List.length_cons, List.length_nil] at this
  omega
 ·obtain ⟨h1, h2, h3⟩ := river_nums hB hr
  have := nums_small h1
  unfold lineT
  rw [List.length_append]
  have h4 : wRiver.length = 5 := rfl
  omega
/-- A book whose text can be told: what is read of a text is one, as defined or not. -/
structure TextB (b : Book) : Prop where
 y : 0 ≤ b.years ∧ b.years ≤ 999
 n : b.rivers.length ≤ 300
 nums : ∀ r, r ∈ b.rivers → ∀ y, y ∈ r.nums → 0 ≤ y ∧ y ≤ 999
 grow : ∀ r, r ∈ b.rivers → r.grow.length ≤ 150
 short : ∀ l, l ∈ linesT b → l.length ≤ 300
theorem nums_length (r : River) : r.nums.length = 2 + 2 * r.grow.length := by
 unfold River.nums
 rw [List.length_cons, List.length_cons]
 have : ∀ l : List (Int × Int), (l.flatMap fun s => [s.1, s.2]).length = 2 * l.length := by
  intro l
  induction l with
  | nil => rfl
  | cons x l ih => rw [List.flatMap_cons, List.length_append, ih, List.length_cons, List.length_cons, List.length_cons, List.length_nil]; omega
 rw [this]; omega
theorem textB_of {b : Book} (hB : BookB b) : TextB b where
 y := by have := hB.y1; have := hB.y2; omega
 n := by have := hB.n2; omega
 nums := fun r hr y hy => by have := (river_nums hB hr).1 y hy; omega
 grow := fun r hr => by have := (river_nums hB hr).2.2; omega
 short := linesT_short hB
theorem byte_le (c : UInt8) : (c.toNat : Int) ≤ 255 := by have := c.toNat_lt; omega
theorem term_bd (c : UInt8) {k i : Nat} (hk : k ≤ 300) (hi : i ≤ 600) : (0 ≤ (c.toNat : Int) * ((k : Int) + 1) ∧ (c.toNat : Int) * ((k : Int) + 1) ≤ 76755) ∧ 0 ≤ (c.toNat : Int) * ((k : Int) + 1) * ((i : Int) + 1) ∧ (c.toNat : Int) * ((k : Int) + 1) * ((i : Int) + 1) ≤ 46129755 := by
 have h0 : (0 : Int) ≤ (c.toNat : Int) := by omega
 have h1 := byte_le c
 have h2 : 0 ≤ (c.toNat : Int) * ((k : Int) + 1) := Int.mul_nonneg h0 (by omega)
 have h3 : (c.toNat : Int) * ((k : Int) + 1) ≤ 255 * 301 := Int.mul_le_mul h1 (by omega) (by omega) (by omega)
 have h4 : 0 ≤ (c.toNat : Int) * ((k : Int) + 1) * ((i : Int) + 1) := Int.mul_nonneg h2 (by omega)
 have h5 : (c.toNat : Int) * ((k : Int) + 1) * ((i : Int) + 1) ≤ 76755 * 601 := Int.mul_le_mul (by omega) (by omega) (by omega) (by omega)
 omega
theorem lineSum_bd {i : Nat} {l : List UInt8} (hi : i ≤ 600) : ∀ {k : Nat}, k ≤ 300 → 0 ≤ lineSum i l k ∧ lineSum i l k ≤ k * 46129755
 | 0, _ => by simp [lineSum]
 | k + 1, hk => by
  have h1 := lineSum_bd (l := l) hi (k := k) (by omega)
  have h2 := (term_bd (l.getD k 0) (k := k) (i := i) (by omega) hi).2
  rw [lineSum]; push_cast; omega
theorem linesSum_bd {ls : List (List UInt8)} (h : ∀ l, l ∈ ls → l.length ≤ 300) : ∀ {i : Nat}, i ≤ 600 → 0 ≤ linesSum ls i ∧ linesSum ls i ≤ i * 13838926500
 | 0, _ => by simp [linesSum]
 | i + 1, hi => by
  have h1 := linesSum_bd h (i := i) (by omega)
  have hl : (ls.getD i []).length ≤ 300 := by
   by_cases hi : i < ls.length
   ·rw [List.getD_eq_getElem?_getD, List.getElem?_eq_getElem hi]; exact h _ (List.getElem_mem hi)
   ·simp [List.getD, Nat.not_lt.1 hi]
  have h2 := lineSum_bd (i := i) (l := ls.getD i []) (by omega) hl
  rw [linesSum]
  have h3 : ((ls.getD i []).length : Int) * 46129755 ≤ 300 * 46129755 := Int.mul_le_mul_of_nonneg_right (by omega) (by omega)
  push_cast; omega
theorem info_string : (Tryz.prog.info? 9).map (fun i => (i.zero, i.size, i.bytes)) = some (some (.string ⟨#[]⟩), 1, 16) := by kernel_rfl
theorem E_strs : Elem Tryz.prog 185 9 1 16 (.string ⟨#[]⟩) := by
 obtain ⟨i, h1, h2, h3, h4⟩ := info_parts info_string
 exact ⟨Tryz.underlying185, ⟨i, h1, h2, h3, h4⟩, rfl, by decide⟩
theorem owns_two {w : World} {base : Nat} {e : TypeId} (x y : Value) (hb : base ≤ w.heap.size) : (w.alloc (.cells #[x, y] e)).ownsRow base e 1 (.slice (some ⟨w.heap.size, 0, none⟩) 2 2) 2 [x, y] :=
 ⟨rfl, .inr ⟨w.heap.size, 2, #[x, y], rfl, hb, World.alloc_heap_new w _, Nat.le_refl _, by unfold maxLen; omega, rfl, rfl⟩⟩
theorem strs_cell {W : World} {b n c : Nat} {ls : List (List UInt8)} (h : StrsAt W (.slice (some ⟨b, 0, none⟩) n c) ls) {k : Nat} {l : List UInt8} (hy : ls[k]? = some l) : W.cell? ⟨b, k, none⟩ = some (strV l) := by
 obtain ⟨a', c', hv, _, _, _, h3⟩ := h
 obtain ⟨b', o', e, hc⟩ := h3 k (strV l) (by rw [List.getElem?_map, hy]; rfl)
 injection hv with h1 h2 h3
 rw [e] at h1
 cases h1
 rw [Nat.zero_add] at hc
 exact hc
theorem wrap_term {S T c k i : Int} (t1 : 0 ≤ c * (k + 1)) (t2 : c * (k + 1) ≤ 76755) (t3 : 0 ≤ c * (k + 1) * (i + 1)) (t4 : c * (k + 1) * (i + 1) ≤ 46129755) (c0 : 0 ≤ c) (c1 : c ≤ 255) (s0 : 0 ≤ S) (s1 : S ≤ 6960980029500) (u0 : 0 ≤ T) (u1 : T ≤ 13838926500) :
  wrap64 (S + T + wrap64 (wrap64 (wrap64 c * (k + 1)) * (i + 1))) = S + (T + c * (k + 1) * (i + 1)) := by
 rw [IntWalk.wrap64_in c (by omega), IntWalk.wrap64_in (c * (k + 1)) (by omega), IntWalk.wrap64_in (c * (k + 1) * (i + 1)) (by omega), IntWalk.wrap64_in _ (by omega)]; omega
theorem ba_app (x y : List UInt8) : (({ data := x.toArray } : ByteArray) ++ ({ data := y.toArray } : ByteArray)) = { data := (x ++ y).toArray } := by
 apply ByteArray.ext; simp
theorem end_str (J a b c : List UInt8) : Value.string ((((((({ data := J.toArray } : ByteArray) ++ ({ data := #[10, 101, 110, 100, 32] } : ByteArray)) ++ ({ data := a.toArray } : ByteArray)) ++ ({ data := b.toArray } : ByteArray)) ++ ({ data := c.toArray } : ByteArray)) ++ ({ data := #[10] } : ByteArray))) = strV (J ++ ([10, 101, 110, 100, 32] ++ a ++ b ++ c ++ [10])) := by
 rw [show (({ data := #[10, 101, 110, 100, 32] } : ByteArray)) = { data := ([10, 101, 110, 100, 32] : List UInt8).toArray } from rfl, show (({ data := #[10] } : ByteArray)) = { data := ([10] : List UInt8).toArray } from rfl, ba_app, ba_app, ba_app, ba_app, ba_app]
 simp
theorem lens_le {L : List (List UInt8)} (h : ∀ l, l ∈ L → l.length ≤ 300) : Lib.lens L ≤ 300 * L.length := by
 induction L with
 | nil => simp [Lib.lens]
 | cons x L ih =>
  have h1 := h x (by simp)
  have h2 := ih (fun l hl => h l (by simp [hl]))
  have : Lib.lens (x :: L) = x.length + Lib.lens L := by simp [Lib.lens]
  rw [this, List.length_cons]; omega
theorem join_short {L : List (List UInt8)} (h : ∀ l, l ∈ L → l.length ≤ 300) (h7 : L.length ≤ 503) : (Lib.join L [10]).length ≤ 200000 := by
 have h2 := lens_le h
 cases L with
 | nil => simp [Lib.join]
 | cons x L =>
  rw [Lib.join_length]
  simp only [List.length_cons, List.length_nil] at h2 h7 ⊢
  omega
end Go.Proofs.YtiodjapdiflphaaGreatDoor
/- The text of a book: the walk. -/
namespace Go.Proofs.YtiodjapdiflphaaGreatDoor
open Go.RowKit
theorem owns_one {w : World} {base : Nat} {e : TypeId} (x : Value) (hb : base ≤ w.heap.size) : (w.alloc (.cells #[x] e)).ownsRow base e 1 (.slice (some ⟨w.heap.size, 0, none⟩) 1 1) 1 [x] :=
 ⟨rfl, .inr ⟨w.heap.size, 1, #[x], rfl, hb, World.alloc_heap_new w _, Nat.le_refl _, by unfold maxLen; omega, rfl, rfl⟩⟩
def numsUp (r : River) (j : Nat) : List Int := r.vary :: r.closed :: (r.grow.take j).flatMap fun s => [s.1, s.2]
theorem numsUp_succ {r : River} {j : Nat} {s : Int × Int} (h : r.grow[j]? = some s) : numsUp r (j + 1) = numsUp r j ++ [s.1, s.2] := by unfold numsUp; rw [List.take_add_one, h]; simp
theorem numsUp_end (r : River) : numsUp r r.grow.length = r.nums := by unfold numsUp River.nums; rw [List.take_length]
set_option maxRecDepth 100000 in
set_option maxHeartbeats 8000000 in
theorem text_any (v : Value) (b : Book) (w : World) (hb : BookAt w v b) (hB : TextB b) (ht : TabOk w) :
  Calls Tryz.prog 69 #[v] w fun e w' => e = .returned (strV (textT b)) ∧ Ext w w' := by
 obtain ⟨rv, rfl, hr⟩ := hb
 obtain ⟨ra, rc, rfl, r1, r2, r3⟩ := hr.open
 have HR3 := Lib.hid r3
 have HT := Lib.hid (fun w1 (hx : Ext w w1) => ht.ext hx)
 have hn3 := hB.n
 have HBB := Lib.hid hB
 have hbk : ∀ y, y ∈ [b.years, (b.rivers.length : Int)] → 0 ≤ y ∧ y ≤ 2000000 := fun y hy => by
  have h1 := hB.y
  simp at hy
  rcases hy with rfl | rfl <;> omega
 have HL1 := Lib.hid (fun (w1 : World) (hx : Ext w w1) (hi : IntsAt w1 (.slice (some ⟨w.heap.size + 1, 0, none⟩) 2 2) [b.years, (b.rivers.length : Int)]) => line_any wBook _ _ w1 (ht.ext hx) hi hbk (by simp) (by decide))
 have HLR := Lib.hid (fun (r : River) (hr : r ∈ b.rivers) (v : Value) (w1 : World) (hx : Ext w w1) (hi : IntsAt w1 v r.nums) => line_any wRiver v r.nums w1 (ht.ext hx) hi (fun y hy => by have := hB.nums r hr y hy; omega) (by have := nums_length r; have := hB.grow r hr; omega) (by decide))
 have hx0 : Ext w ((w.alloc (.cells #[.int .i64 b.years, .slice ra b.rivers.length rc] 24)).alloc (.cells #[.int .i64 b.years, .int .i64 b.rivers.length] 3)) := ((Ext.refl w).alloc _).alloc _
 have HX0 := Lib.hid hx0
 clear r3 hr ht hB hbk hx0
 go_enter Tryz.func69, Tryz.ntmps69
 go_wp2_with (go_at_call 108; refine (HL1.out _ HX0.out (two_ints _ _ _ _ (by go_simp) (by go_simp))).mono ?_; rintro e w1 ⟨rfl, hx1⟩; have hz1 := hx1.cell (a := ⟨w.heap.size, 1, none⟩) (v := .slice ra b.rivers.length rc) (by go_simp); have hz1' := (hx1.alloc (.cells #[strV (lineT wBook [b.years, (b.rivers.length : Int)])] 9)).cell (a := ⟨w.heap.size, 1, none⟩) (v := .slice ra b.rivers.length rc) (by go_simp))
 have hxw1 := HX0.out.trans hx1
 have hzs : w.heap.size + 1 ≤ w1.heap.size := by have := hx1.size; simp at this; omega
 have hown0 := owns_one (w := w1) (base := w.heap.size + 1) (e := 9) (strV (lineT wBook [b.years, (b.rivers.length : Int)])) hzs
 have hxw2 := hxw1.alloc (.cells #[strV (lineT wBook [b.years, (b.rivers.length : Int)])] 9)
 clear hz1 hz1' hx1
 go_loopw [3, 24] (fun lv i wr => ∃ k : Nat, k ≤ b.rivers.length ∧ i = .int .i64 k ∧ wr.ownsRow (w.heap.size + 1) 9 1 lv (k + 1) ((linesUp b k).map strV) ∧ Ext w wr ∧ w.heap.size + 1 ≤ wr.heap.size) (fun _ i _ => b.rivers.length - (intOf i).toNat)
 case atStart => exact ⟨0, Nat.zero_le _, rfl, hown0, hxw2, by simp; omega⟩
 case round =>
  clear hown0 hxw2 hxw1
  obtain ⟨k, hk, rfl, hown, hx, hzr⟩ := hrel
  obtain ⟨wo, rfl⟩ : ∃ wo : World, wo = wr := ⟨_, rfl⟩
  by_cases hlt : k < b.rivers.length
  ·have x2 : decide ((k : Int) < (b.rivers.length : Int)) = true := by simpa using hlt
   have i1 : (0 : Int) ≤ (k : Int) := by omega
   have i2 : (k : Int) < (b.rivers.length : Int) := by omega
   obtain ⟨rb, ro, gv, R, rfl, hR, d0, d1, d2, hg⟩ := HR3.out k hlt
   have hRm := List.mem_of_getElem? hR.out
   have hs1 := HBB.out.nums R hRm; have hs2 := nums_length R; have hs3 := HBB.out.grow R hRm
   have HNL := Lib.hid hs2
   clear hs2
   have e0 := hx.cell d0
   have e1 := hx.cell d1
   have e2 := hx.cell d2
   obtain ⟨ga, gc, rfl, g1, g2, g3⟩ := hg.open
   have HG := Lib.hid g3
   have HUP := Lib.hid (linesUp_succ hR.out)
   have HLN := Lib.hid (fun v w1 hx hi => HLR.out R hRm v w1 hx hi)
   have HOWN := Lib.hid hown
   have HX := Lib.hid hx
   have hsz : k + 1 + 1 ≤ maxLen ∧ (k + 1 + 1) * 16 ≤ 140737488355328 := by unfold maxLen; omega
   have HSZ := Lib.hid hsz
   obtain ⟨_, _, rfl, _⟩ := RowAt.open (RowAt.of_owns hown)
   clear g3 hg d0 d1 d2 hown hsz hs1 hx
   go_wp2
   obtain ⟨wp, hwp⟩ : ∃ wp, wp = ((wo.alloc (.cells #[.slice ga R.grow.length gc, .int .i64 R.vary, .int .i64 R.closed] 62)).alloc (.cells #[.int .i64 R.vary, .int .i64 R.closed] 3)) := ⟨_, rfl⟩
   have hownp : wp.ownsRow (wo.heap.size + 1) 3 1 (.slice (some ⟨wo.heap.size + 1, 0, none⟩) 2 2) 2 [.int .i64 R.vary, .int .i64 R.closed] := by
    rw [hwp]
    have h := owns_two (w := wo.alloc (.cells #[.slice ga R.grow.length gc, .int .i64 R.vary, .int .i64 R.closed] 62)) (base := wo.heap.size + 1) (e := 3) (.int .i64 R.vary) (.int .i64 R.closed) (by simp)
    rwa [World.size_alloc] at h
   have hxp : Ext wo wp := by rw [hwp]; exact ((Ext.refl wo).alloc _).alloc _
   have hzp : wo.heap.size + 2 ≤ wp.heap.size := by rw [hwp]; simp
   rw [← hwp]
   clear hwp
   go_loopw [6, 36] (fun nv i wq => ∃ j : Nat, j ≤ R.grow.length ∧ i = .int .i64 j ∧ wq.ownsRow (wo.heap.size + 1) 3 1 nv (2 + j * 2) ((numsUp R j).map (.int .i64)) ∧ Ext wo wq ∧ wo.heap.size + 1 ≤ wq.heap.size) (fun _ i _ => R.grow.length - (intOf i).toNat)
   case atStart => exact ⟨0, Nat.zero_le _, rfl, hownp, hxp, by omega⟩
   case round =>
    clear hownp hxp hzp
    obtain ⟨j, hj, rfl, hon, hxq, hzq⟩ := hrel
    by_cases hjl : j < R.grow.length
    ·obtain ⟨gb, go, sp, rfl, hsp, c0, c1⟩ := HG.out j hjl
     have y2 : decide ((j : Int) < (R.grow.length : Int)) = true := by simpa using hjl
     have j1 : (0 : Int) ≤ (j : Int) := by omega
     have j2 : (j : Int) < (R.grow.length : Int) := by omega
     have q0 := (HX.out.trans hxq).cell c0
     have q1 := (HX.out.trans hxq).cell c1
     have HNU := Lib.hid (numsUp_succ hsp.out)
     have HON := Lib.hid hon
     have HXQ := Lib.hid hxq
     have HS2 := Lib.hid (show 2 + j * 2 + 2 ≤ maxLen ∧ (2 + j * 2 + 2) * 8 ≤ 140737488355328 by unfold maxLen; omega)
     obtain ⟨_, _, rfl, _⟩ := RowAt.open (RowAt.of_owns hon)
     clear c0 c1 hon hxq
     go_wp2_with (at_builtin; refine wpList_append_row E_ints rfl _ _ rfl (wo.heap.size + 1) rfl (owns_ext HON.out (((Ext.refl _).alloc _).alloc _)) rfl (show RowAt _ _ 2 [.int .i64 sp.1, .int .i64 sp.2] from two_ints _ _ sp.1 sp.2 (by go_simp) (by go_simp)) (by simp) (fun u hu => by simp at hu; rcases hu with rfl | rfl <;> rfl) ?_ HS2.out.1 HS2.out.2 (by simp; omega); intro v8 w8 hown8 hgr8 _)
     have hx8 : Ext wo w8 := ((HXQ.out.alloc _).alloc _).grown hgr8 (fun g hg => by have := owns_block HON.out g hg; omega)
     refine ⟨⟨j + 1, by omega, by go_num, ?_, hx8, by have := hx8.size; have := hgr8.size; simp at this; omega⟩, by simp [intOf]; omega⟩
     rw [HNU.out, List.map_append, show 2 + (j + 1) * 2 = 2 + j * 2 + 2 by omega]
     exact hown8
    ·have y2 : decide ((j : Int) < (R.grow.length : Int)) = false := by simpa using hjl
     have hje : j = R.grow.length := by omega
     subst hje
     have hin : IntsAt wr u6 R.nums := by
      have h := RowAt.of_owns hon
      rw [show 2 + R.grow.length * 2 = R.nums.length by have := HNL.out; omega, numsUp_end] at h
      exact h
     have HIN := Lib.hid hin
     have hxw : Ext w wr := HX.out.trans hxq
     have HXW := Lib.hid hxw
     have HLL := Lib.hid (HLN.out u6 wr hxw hin)
     have HXQ := Lib.hid hxq
     obtain ⟨_, _, rfl, _⟩ := hin.open
     clear hon hin hxw hxq
     go_wp2_with (first
      | (go_at_call 108; refine HLL.out.mono ?_; rintro e w4 ⟨rfl, hx4⟩; have hx14 : Ext wo w4 := HXQ.out.trans hx4; have hbz : w.heap.size + 1 ≤ w4.heap.size := by have := hx14.size; omega)
      | (at_builtin; refine wpList_push_at E_strs rfl _ _ rfl (w.heap.size + 1) rfl (owns_ext HOWN.out hx14) rfl rfl rfl (by simp [Value.oneCell']) ?_ HSZ.out.1 HSZ.out.2 hbz; intro g cap w5 hown5 hext5 hg5 hloc5))
     refine ⟨⟨k + 1, by omega, by go_num, ?_, hext5 _ (HXW.out.trans hx4) (by omega), by have := hg5.size; simp at this; omega⟩, by simp [intOf]; omega⟩
     rw [HUP.out, List.map_append]
     exact hown5
  ·have hke : k = b.rivers.length := by omega
   subst hke
   have x0 : decide ((b.rivers.length : Int) < (b.rivers.length : Int)) = false := by simp
   have hlen : (linesT b).length = b.rivers.length + 1 := by simp [linesT]
   rw [linesUp_end, ← hlen] at hown
   obtain ⟨w5, hw5⟩ : ∃ w5 : World, w5 = wo := ⟨_, rfl⟩
   rw [← hw5] at hown hx hzr ⊢
   clear hw5
   have hSt : StrsAt w5 u3 (linesT b) := RowAt.of_owns hown
   have hbd := fun (i : Nat) (hi : i ≤ 600) => linesSum_bd HBB.out.short hi
   have hsh := HBB.out.short
   have hne : linesT b ≠ [] := by unfold linesT; simp
   have HTX : Hid (textT b = Lib.join (linesT b) [10] ++ endT (checkT (linesT b))) := rfl
   generalize linesT b = L at *
   obtain ⟨hol, ⟨-, h0⟩ | ⟨g, cap, cur, rfl, -⟩⟩ := hown
   ·omega
   have hcell : ∀ (i : Nat) (l : List UInt8), L[i]? = some l → w5.cell? ⟨g, i, none⟩ = some (strV l) := fun i l hi => strs_cell hSt hi
   have HST := Lib.hid hSt
   have HBD := Lib.hid hbd
   have HSH := Lib.hid hsh
   have HLN := Lib.hid hlen
   have HNE := Lib.hid hne
   have HCE := Lib.hid hcell
   have hxw5 := hx
   clear hSt hbd hsh hlen hne hcell hol hx
   go_wp2
   go_loopw [9, 56] (fun cv iv wr => ∃ i : Nat, i ≤ L.length ∧ iv = .int .i64 i ∧ cv = .int .i64 (linesSum L i) ∧ wr = w5) (fun _ iv _ => L.length - (intOf iv).toNat)
   case atStart => exact ⟨0, Nat.zero_le _, rfl, rfl, rfl⟩
   case round =>
    obtain ⟨i, hi, rfl, rfl, rfl⟩ := hrel
    have hbi := HBD.out i (by have := HLN.out; omega)
    have hN : L.length ≤ 503 := by have := HLN.out; omega
    by_cases hli : i < L.length
    ·obtain ⟨l, hl⟩ : ∃ l, Hid (L[i]? = some l) := ⟨_, List.getElem?_eq_getElem hli⟩
     have hc := HCE.out i l hl.out
     have hll := HSH.out l (List.mem_of_getElem? hl.out)
     have hgd : L.getD i [] = l := by rw [List.getD_eq_getElem?_getD, hl.out]; rfl
     have HGD := Lib.hid (show linesSum L (i + 1) = linesSum L i + lineSum i l l.length by rw [linesSum, hgd])
     have x2 : decide ((i : Int) < (L.length : Int)) = true := by simpa using hli
     have x3 : (i : Int) < (L.length : Int) := by omega
     obtain ⟨hb1, hb2⟩ := hbi
     have hb3 : linesSum L i ≤ 503 * 13838926500 := by
      have : (i : Int) * 13838926500 ≤ 503 * 13838926500 := Int.mul_le_mul_of_nonneg_right (by omega) (by omega)
      omega
     clear hgd hb2
     obtain ⟨wL, hwL⟩ : ∃ wL : World, wL = wr := ⟨_, rfl⟩
     subst hwL
     go_wp2
     go_loopw [9, 63] (fun cv kv wr => ∃ k : Nat, k ≤ l.length ∧ kv = .int .i64 k ∧ cv = .int .i64 (linesSum L i + lineSum i l k) ∧ wr = wL) (fun _ kv _ => l.length - (intOf kv).toNat)
     case atStart => exact ⟨0, Nat.zero_le _, rfl, by simp [lineSum], rfl⟩
     case round =>
      obtain ⟨k, hk, rfl, rfl, rfl⟩ := hrel
      by_cases hlk : k < l.length
      ·have hby : l.getD k 0 = l[k] := by rw [List.getD_eq_getElem?_getD, List.getElem?_eq_getElem hlk]; rfl
       have hs := lineSum_bd (i := i) (l := l) (by omega) (k := k) (by omega)
       have ht := term_bd (l[k]) (k := k) (i := i) (by omega) (by omega)
       obtain ⟨⟨t1, t2⟩, t3, t4⟩ := ht
       have hs2 : lineSum i l k ≤ 300 * 46129755 := by
        have : (k : Int) * 46129755 ≤ 300 * 46129755 := Int.mul_le_mul_of_nonneg_right (by omega) (by omega)
        omega
       obtain ⟨hs1, _⟩ := hs
       have HSU := Lib.hid (show lineSum i l (k + 1) = lineSum i l k + ((l[k]).toNat : Int) * ((k : Int) + 1) * ((i : Int) + 1) by rw [lineSum, hby])
       have x5 : decide ((k : Int) < (l.length : Int)) = true := by simpa using hlk
       clear hby
       go_wp2
       go_roundw
       case rel =>
        refine ⟨k + 1, by omega, by go_num, ?_, trivial⟩
        rw [HSU.out]
        exact congrArg (Value.int IntKind.i64) (wrap_term t1 t2 t3 t4 (by omega) (byte_le _) hb1 (by omega) hs1 (by omega))
       case measure => simp [intOf]; omega
      ·have hke : k = l.length := by omega
       subst hke
       have x5 : decide ((l.length : Int) < (l.length : Int)) = false := by simp
       go_wp2
       exact ⟨⟨i + 1, by omega, by go_num, by rw [HGD.out], trivial⟩, by simp [intOf]; omega⟩
    ·have hie : i = L.length := by omega
     subst hie
     have x2 : decide ((L.length : Int) < (L.length : Int)) = false := by simp
     obtain ⟨hb1, hb2⟩ := hbi
     have hck : ∃ ck, checkT L = ck ∧ 0 ≤ ck ∧ ck ≤ 130 := ⟨_, rfl, by unfold checkT; omega, by unfold checkT; omega⟩
     obtain ⟨ck, hck, hc0, hc1⟩ := hck
     have HCK := Lib.hid hck
     have hsum : linesSum L L.length % 131 = ck := hck
     have hlj : (Lib.join L [10]).length ≤ 200000 := by
      have h7 : L.length ≤ 503 := by have := HLN.out; omega
      exact join_short HSH.out h7
     have HJ := Lib.hid (join_any _ L [10] wr HST.out HNE.out (by have := HLN.out; omega) (by omega))
     have HIT := Lib.hid (fun y (h0 : 0 ≤ y) (h1 : y ≤ 1000) w1 (hx : Ext w w1) => itoa_any y (by omega) (by omega) w1 (HT.out w1 hx))
     clear hck
     go_wp2_with (first
      | (go_at_call 109; refine HJ.out.mono ?_; rintro e w6 ⟨rfl, hx6⟩))
     have hxw6 := hxw5.trans hx6
     have hl1 := Lib.itoa_length_le (ck / 100) (by omega) (by omega)
     have hl2 := Lib.itoa_length_le (ck / 10 % 10) (by omega) (by omega)
     have hl3 := Lib.itoa_length_le (ck % 10) (by omega) (by omega)
     refine (HIT.out (ck / 100) (by omega) (by omega) w6 hxw6).mono ?_
     rintro e w7 ⟨rfl, hx7⟩
     have hxw7 := hxw6.trans hx7
     go_wp2_with fail
     refine (HIT.out (ck / 10 % 10) (by omega) (by omega) w7 hxw7).mono ?_
     rintro e w8 ⟨rfl, hx8⟩
     have hxw8 := hxw7.trans hx8
     go_wp2_with fail
     refine (HIT.out (ck % 10) (by omega) (by omega) w8 hxw8).mono ?_
     rintro e w9 ⟨rfl, hx9⟩
     have hxw9 := hxw8.trans hx9
     go_wp2
     go_ret
     refine ⟨?_, hxw9⟩
     rw [HTX.out, HCK.out]
     exact congrArg Ending.returned (end_str _ _ _ _)
end Go.Proofs.YtiodjapdiflphaaGreatDoor
/- Print. -/
namespace Go.Proofs.YtiodjapdiflphaaGreatDoor
open Go.RowKit
/-- What Print answers. -/
def PrintRes (b : Book) (w : World) (e : Ending) (w' : World) : Prop := e = .returned (.tuple #[strV (if isBookB b = true then textT b else []), .int .i64 (if isBookB b = true then 0 else 2)]) ∧ Ext w w'
set_option maxRecDepth 100000 in
set_option maxHeartbeats 2000000 in
theorem Print_any (v : Value) (b : Book) (w : World) (hb : BookAt w v b) (ht : TabOk w) : Calls Tryz.prog 31 #[v] w (PrintRes b w) := by
 have HB := Lib.hid (fun w1 (hx : Ext w w1) => isBook_any v b w1 (hb.ext hx))
 have HX := Lib.hid (fun (hB : BookB b) w1 (hx : Ext w w1) => text_any v b w1 (hb.ext hx) (textB_of hB) (ht.ext hx))
 obtain ⟨rv, rfl, hr⟩ := hb
 obtain ⟨ra, rc, rfl, _⟩ := hr.open
 have HX0 := Lib.hid ((Ext.refl w).alloc _ : Ext w (w.alloc (.cells #[.int .i64 b.years, .slice ra b.rivers.length rc] 24)))
 clear hr ht
 cases hbb : isBookB b with
 | false =>
  have HF : Hid (∀ w1, Ext w w1 → PrintRes b w (.returned (.tuple #[.string ⟨#[]⟩, .int .i64 2])) w1) := fun w1 hx => ⟨by rw [hbb]; rfl, hx⟩
  rw [hbb] at HB
  clear hbb
  go_enter Tryz.func31, Tryz.ntmps31
  go_wp2_with (go_at_call 46; refine (HB.out _ HX0.out).mono ?_; rintro e w1 ⟨rfl, hx1⟩)
  go_ret2
  exact HF.out _ (HX0.out.trans hx1)
 | true =>
  have HF : Hid (∀ w1, Ext w w1 → PrintRes b w (.returned (.tuple #[strV (textT b), .int .i64 0])) w1) := fun w1 hx => ⟨by rw [hbb]; rfl, hx⟩
  have hB := Lib.hid (bookB_of hbb)
  rw [hbb] at HB
  clear hbb
  go_enter Tryz.func31, Tryz.ntmps31
  go_wp2_with (first
   | (go_at_call 46; refine (HB.out _ HX0.out).mono ?_; rintro e w1 ⟨rfl, hx1⟩; have z0 := hx1.cell (a := ⟨w.heap.size, 0, none⟩) (v := .int .i64 b.years) (by go_simp); have z1 := hx1.cell (a := ⟨w.heap.size, 1, none⟩) (v := .slice ra b.rivers.length rc) (by go_simp))
   | (go_at_call 69; refine (HX.out hB.out _ (HX0.out.trans hx1)).mono ?_; rintro e w2 ⟨rfl, hx2⟩))
  go_ret2
  exact HF.out _ ((HX0.out.trans hx1).trans hx2)
end Go.Proofs.YtiodjapdiflphaaGreatDoor
/- The text of the example, by reckoning. -/
namespace Go.Proofs.YtiodjapdiflphaaGreatDoor
def decF : Nat → Nat → List UInt8
 | 0, _ => []
 | f + 1, u => if u < 10 then [UInt8.ofNat (48 + u)] else decF f (u / 10) ++ [UInt8.ofNat (48 + u % 10)]
theorem decF_eq : ∀ (f u : Nat), 1 ≤ f → u < 10 ^ f → Lib.decDigits u = decF f u
 | f + 1, u, _, hu => by
  rw [Lib.decDigits, decF]
  by_cases h : u < 10
  ·rw [dif_pos h, if_pos h]
  ·rw [dif_neg h, if_neg h]
   have hf : 1 ≤ f := by
    cases f with
    | zero => simp at hu; omega
    | succ f => omega
   rw [decF_eq f (u / 10) hf (by rw [Nat.pow_succ] at hu; omega)]
def itoaC (n : Int) : List UInt8 := if n < 0 then 45 :: decF 10 n.natAbs else decF 10 n.toNat
theorem itoa_c {n : Int} (h0 : -1000000 ≤ n) (h1 : n ≤ 1000000) : Lib.itoa n = itoaC n := by
 unfold Lib.itoa itoaC
 rw [decF_eq 10 n.natAbs (by omega) (by omega), decF_eq 10 n.toNat (by omega) (by omega)]
def numsC (ns : List Int) : List UInt8 := ns.flatMap fun n => 32 :: itoaC n
theorem numsT_c : ∀ {ns : List Int}, (∀ y, y ∈ ns → -1000000 ≤ y ∧ y ≤ 1000000) → numsT ns = numsC ns
 | [], _ => rfl
 | x :: ns, h => by
  have h1 := h x (by simp)
  have h2 := numsT_c (ns := ns) (fun y hy => h y (by simp [hy]))
  have h3 : numsT (x :: ns) = (32 :: Lib.itoa x) ++ numsT ns := by simp [numsT]
  have h4 : numsC (x :: ns) = (32 :: itoaC x) ++ numsC ns := by simp [numsC]
  rw [h3, h4, h2, itoa_c h1.1 h1.2]
theorem ev_lines : linesT exB = [[98, 111, 111, 107, 32, 52, 32, 50], [114, 105, 118, 101, 114, 32, 49, 32, 52, 32, 49, 48, 32, 49, 50, 32, 49, 52, 32, 49, 54, 32, 56, 32, 57, 32, 50, 48, 32, 50, 50], [114, 105, 118, 101, 114, 32, 48, 32, 49, 48, 32, 49, 50, 32, 49, 52, 32, 57, 32, 49, 48, 32, 49, 53, 32, 49, 53, 32, 49, 48, 32, 49, 50]] := by
 unfold linesT lineT
 simp only [exB, List.map_cons, List.map_nil, River.nums, List.length_cons, List.length_nil]
 rw [numsT_c (by decide), numsT_c (by decide), numsT_c (by decide)]
 decide +kernel
theorem ev_text : textT exB = [98, 111, 111, 107, 32, 52, 32, 50, 10, 114, 105, 118, 101, 114, 32, 49, 32, 52, 32, 49, 48, 32, 49, 50, 32, 49, 52, 32, 49, 54, 32, 56, 32, 57, 32, 50, 48, 32, 50, 50, 10, 114, 105, 118, 101, 114, 32, 48, 32, 49, 48, 32, 49, 50, 32, 49, 52, 32, 57, 32, 49, 48, 32, 49, 53, 32, 49, 53, 32, 49, 48, 32, 49, 50, 10, 101, 110, 100, 32, 48, 57, 50, 10] := by
 unfold textT
 rw [ev_lines, show checkT [[98, 111, 111, 107, 32, 52, 32, 50], [114, 105, 118, 101, 114, 32, 49, 32, 52, 32, 49, 48, 32, 49, 50, 32, 49, 52, 32, 49, 54, 32, 56, 32, 57, 32, 50, 48, 32, 50, 50], [114, 105, 118, 101, 114, 32, 48, 32, 49, 48, 32, 49, 50, 32, 49, 52, 32, 57, 32, 49, 48, 32, 49, 53, 32, 49, 53, 32, 49, 48, 32, 49, 50]] = 92 by decide +kernel]
 unfold endT
 rw [itoa_c (by decide) (by decide), itoa_c (by decide) (by decide), itoa_c (by decide) (by decide)]
 decide +kernel
end Go.Proofs.YtiodjapdiflphaaGreatDoor
