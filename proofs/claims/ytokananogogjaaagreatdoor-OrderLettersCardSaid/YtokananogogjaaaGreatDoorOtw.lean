/- The library's functions that the program calls, as the shelf's contracts ask for them: the numbers of functions and types, field by field. -/
import Derived.Shelf.LaysM
import Derived.Shelf.Lays
import Derived.Shelf.Strconv.Itoa3
import Derived.Shelf.Strings.Split
import Derived.Shelf.Strings.Prefix
import Derived.Test.YtokananogogjaaaGreatDoorProg
import Derived.Test.YtokananogogjaaaGreatDoorOtp
import Derived.Test.YtokananogogjaaaGreatDoorOaq
import Derived.Test.YtokananogogjaaaGreatDoorOc
namespace Go.Proofs.YtokananogogjaaaGreatDoor
open Go.Shelf
def Tryz.itoa_ren : Go.Shelf.Ren := ⟨fun | 171 => 130 | 243 => 158 | 246 => 169 | 283 => 177 | 284 => 178 | 285 => 179 | 286 => 180 | 129 => 146 | 317 => 183 | 318 => 184 | 319 => 185 | 320 => 186 | 337 => 187 | 338 => 188 | n => n, fun | 3 => 3 | 9 => 9 | 2 => 2 | 4 => 4 | 171 => 240 | 0 => 0 | 53 => 214 | 37 => 177 | 5 => 5 | 173 => 242 | 212 => 251 | 51 => 212 | 20 => 20 | 213 => 252 | 46 => 180 | 232 => 253 | 233 => 254 | n => n, fun | 17 => 3 | 18 => 4 | 19 => 5 | n => n⟩
theorem Tryz.itoa : Go.Proofs.LaysM.n171 Tryz.prog Tryz.itoa_ren := {
 mixed := by kernel_rfl
 f129 := Tryz.func146.trans (congrArg some (by kernel_rfl))
 f171 := Tryz.func130.trans (congrArg some (by kernel_rfl))
 f243 := Tryz.func158.trans (congrArg some (by kernel_rfl))
 f246 := Tryz.func169.trans (congrArg some (by kernel_rfl))
 f283 := Tryz.func177.trans (congrArg some (by kernel_rfl))
 f284 := Tryz.func178.trans (congrArg some (by kernel_rfl))
 f285 := Tryz.func179.trans (congrArg some (by kernel_rfl))
 f286 := Tryz.func180.trans (congrArg some (by kernel_rfl))
 f317 := Tryz.func183.trans (congrArg some (by kernel_rfl))
 f318 := Tryz.func184.trans (congrArg some (by kernel_rfl))
 f319 := Tryz.func185.trans (congrArg some (by kernel_rfl))
 f320 := Tryz.func186.trans (congrArg some (by kernel_rfl))
 f337 := Tryz.func187.trans (congrArg some (by kernel_rfl))
 f338 := Tryz.func188.trans (congrArg some (by kernel_rfl))
 t0 := Tryz.underlying0
 a0 := Tryz.isAgg0
 z0 := Tryz.sizeOf0
 v0 := Tryz.zeroValue0
 t2 := Tryz.underlying2
 a2 := Tryz.isAgg2
 z2 := Tryz.sizeOf2
 v2 := Tryz.zeroValue2
 t3 := Tryz.underlying3
 a3 := Tryz.isAgg3
 z3 := Tryz.sizeOf3
 v3 := Tryz.zeroValue3
 t4 := Tryz.underlying4
 a4 := Tryz.isAgg4
 z4 := Tryz.sizeOf4
 v4 := Tryz.zeroValue4
 t5 := Tryz.underlying5
 a5 := Tryz.isAgg5
 z5 := Tryz.sizeOf5
 v5 := Tryz.zeroValue5
 t9 := Tryz.underlying9
 a9 := Tryz.isAgg9
 z9 := Tryz.sizeOf9
 v9 := Tryz.zeroValue9
 t20 := Tryz.underlying20
 a20 := Tryz.isAgg20
 z20 := Tryz.sizeOf20
 v20 := Tryz.zeroValue20
 t37 := Tryz.underlying177
 a37 := Tryz.isAgg177
 z37 := Tryz.sizeOf177
 v37 := Tryz.zeroValue177
 t46 := Tryz.underlying180
 a46 := Tryz.isAgg180
 z46 := Tryz.sizeOf180
 v46 := Tryz.zeroValue180
 t51 := Tryz.underlying212
 a51 := Tryz.isAgg212
 z51 := Tryz.sizeOf212
 v51 := Tryz.zeroValue212
 t53 := Tryz.underlying214
 a53 := Tryz.isAgg214
 z53 := Tryz.sizeOf214
 v53 := Tryz.zeroValue214
 t171 := Tryz.underlying240
 a171 := Tryz.isAgg240
 z171 := Tryz.sizeOf240
 v171 := Tryz.zeroValue240
 t173 := Tryz.underlying242
 a173 := Tryz.isAgg242
 z173 := Tryz.sizeOf242
 v173 := Tryz.zeroValue242
 t212 := Tryz.underlying251
 a212 := Tryz.isAgg251
 z212 := Tryz.sizeOf251
 v212 := Tryz.zeroValue251
 t213 := Tryz.underlying252
 a213 := Tryz.isAgg252
 z213 := Tryz.sizeOf252
 t232 := Tryz.underlying253
 a232 := Tryz.isAgg253
 z232 := Tryz.sizeOf253
 v232 := Tryz.zeroValue253
 t233 := Tryz.underlying254
 a233 := Tryz.isAgg254
 z233 := Tryz.sizeOf254
 v233 := Tryz.zeroValue254
 g17 := by kernel_rfl
 g18 := by kernel_rfl
 g19 := by kernel_rfl
 i0 := by kernel_rfl
 i2 := by kernel_rfl
 i3 := by kernel_rfl
 i4 := by kernel_rfl
 i5 := by kernel_rfl
 i9 := by kernel_rfl
 i20 := by kernel_rfl
 i37 := by kernel_rfl
 i46 := by kernel_rfl
 i51 := by kernel_rfl
 i53 := by kernel_rfl
 i171 := by kernel_rfl
 i173 := by kernel_rfl
 i212 := by kernel_rfl
 i232 := by kernel_rfl
 i233 := by kernel_rfl
 m17 := by kernel_rfl
 m18 := by kernel_rfl
 m19 := by kernel_rfl }
open Go.Shelf
def Tryz.splitS_ren : Go.Shelf.Ren := ⟨fun | 146 => 103 | 221 => 129 | 268 => 155 | 138 => 156 | 143 => 157 | 195 => 165 | 197 => 166 | 218 => 167 | 219 => 168 | 260 => 172 | 217 => 173 | 225 => 174 | 224 => 175 | 267 => 176 | 266 => 181 | 314 => 182 | n => n, fun | 9 => 9 | 31 => 143 | 3 => 3 | 4 => 4 | 0 => 0 | 105 => 233 | 21 => 21 | 5 => 5 | 46 => 180 | 119 => 244 | 139 => 247 | 138 => 246 | 146 => 248 | 51 => 212 | n => n, fun | 1 => 0 | 3 => 1 | 4 => 2 | n => n⟩
theorem Tryz.splitS : Go.Proofs.LaysM.n146 Tryz.prog Tryz.splitS_ren := {
 mixed := by kernel_rfl
 f138 := Tryz.func156.trans (congrArg some (by kernel_rfl))
 f143 := Tryz.func157.trans (congrArg some (by kernel_rfl))
 f146 := Tryz.func103.trans (congrArg some (by kernel_rfl))
 f195 := Tryz.func165.trans (congrArg some (by kernel_rfl))
 f197 := Tryz.func166.trans (congrArg some (by kernel_rfl))
 f217 := Tryz.func173.trans (congrArg some (by kernel_rfl))
 f218 := Tryz.func167.trans (congrArg some (by kernel_rfl))
 f219 := Tryz.func168.trans (congrArg some (by kernel_rfl))
 f221 := Tryz.func129.trans (congrArg some (by kernel_rfl))
 f224 := Tryz.func175.trans (congrArg some (by kernel_rfl))
 f225 := Tryz.func174.trans (congrArg some (by kernel_rfl))
 f260 := Tryz.func172.trans (congrArg some (by kernel_rfl))
 f266 := Tryz.func181.trans (congrArg some (by kernel_rfl))
 f267 := Tryz.func176.trans (congrArg some (by kernel_rfl))
 f268 := Tryz.func155.trans (congrArg some (by kernel_rfl))
 f314 := Tryz.func182.trans (congrArg some (by kernel_rfl))
 t0 := Tryz.underlying0
 a0 := Tryz.isAgg0
 z0 := Tryz.sizeOf0
 v0 := Tryz.zeroValue0
 t3 := Tryz.underlying3
 a3 := Tryz.isAgg3
 z3 := Tryz.sizeOf3
 v3 := Tryz.zeroValue3
 t4 := Tryz.underlying4
 a4 := Tryz.isAgg4
 z4 := Tryz.sizeOf4
 v4 := Tryz.zeroValue4
 t5 := Tryz.underlying5
 a5 := Tryz.isAgg5
 z5 := Tryz.sizeOf5
 v5 := Tryz.zeroValue5
 t9 := Tryz.underlying9
 a9 := Tryz.isAgg9
 z9 := Tryz.sizeOf9
 v9 := Tryz.zeroValue9
 t21 := Tryz.underlying21
 a21 := Tryz.isAgg21
 z21 := Tryz.sizeOf21
 v21 := Tryz.zeroValue21
 t31 := Tryz.underlying143
 a31 := Tryz.isAgg143
 z31 := Tryz.sizeOf143
 v31 := Tryz.zeroValue143
 t46 := Tryz.underlying180
 a46 := Tryz.isAgg180
 z46 := Tryz.sizeOf180
 v46 := Tryz.zeroValue180
 t51 := Tryz.underlying212
 a51 := Tryz.isAgg212
 z51 := Tryz.sizeOf212
 v51 := Tryz.zeroValue212
 t105 := Tryz.underlying233
 a105 := Tryz.isAgg233
 z105 := Tryz.sizeOf233
 v105 := Tryz.zeroValue233
 t119 := Tryz.underlying244
 a119 := Tryz.isAgg244
 z119 := Tryz.sizeOf244
 t138 := Tryz.underlying246
 a138 := Tryz.isAgg246
 z138 := Tryz.sizeOf246
 v138 := Tryz.zeroValue246
 t139 := Tryz.underlying247
 a139 := Tryz.isAgg247
 z139 := Tryz.sizeOf247
 v139 := Tryz.zeroValue247
 t146 := Tryz.underlying248
 a146 := Tryz.isAgg248
 z146 := Tryz.sizeOf248
 v146 := Tryz.zeroValue248
 g1 := by kernel_rfl
 g3 := by kernel_rfl
 g4 := by kernel_rfl
 i0 := by kernel_rfl
 i3 := by kernel_rfl
 i4 := by kernel_rfl
 i5 := by kernel_rfl
 i9 := by kernel_rfl
 i21 := by kernel_rfl
 i31 := by kernel_rfl
 i46 := by kernel_rfl
 i51 := by kernel_rfl
 i105 := by kernel_rfl
 i138 := by kernel_rfl
 i139 := by kernel_rfl
 i146 := by kernel_rfl
 m1 := by kernel_rfl
 s1_3 := fun w h => Go.Proofs.cell_of_shapedOpen_int (zero := #[.int .i64 0]) (t := 3) h (of_decide_eq_true (by kernel_rfl)) (by kernel_rfl) rfl (by kernel_rfl) (by kernel_rfl) Tryz.underlying3
 m3 := by kernel_rfl
 m4 := by kernel_rfl }
def Tryz.prefS_ren : Go.Shelf.Ren := ⟨fun | 99 => 107 | 206 => 131 | n => n, fun | 9 => 9 | 4 => 4 | 3 => 3 | n => n, fun | n => n⟩
theorem Tryz.prefS : Go.Proofs.Lays.n99 Tryz.prog Tryz.prefS_ren := {
 mixed := by kernel_rfl
 f99 := Tryz.func107.trans (congrArg some (by kernel_rfl))
 f206 := Tryz.func131.trans (congrArg some (by kernel_rfl))
 t3 := Tryz.underlying3
 a3 := Tryz.isAgg3
 z3 := Tryz.sizeOf3
 v3 := Tryz.zeroValue3
 t4 := Tryz.underlying4
 a4 := Tryz.isAgg4
 z4 := Tryz.sizeOf4
 v4 := Tryz.zeroValue4
 t9 := Tryz.underlying9
 a9 := Tryz.isAgg9
 z9 := Tryz.sizeOf9
 v9 := Tryz.zeroValue9 }

end Go.Proofs.YtokananogogjaaaGreatDoor

/- Lines: what a line of a text is, its words, kind and numbers; all lines of a book. -/
namespace Go.Proofs.YtokananogogjaaaGreatDoor
open Go.RowKit
/-! ### In plain Lean -/
inductive Ln where
 | head (e m : Int)
 | good (g : Int)
 | entry (x : Int × Int × Int)
def Ln.nums : Ln → List Int
 | .head e m => [e, m]
 | .good g => [g]
 | .entry x => entN x
def Ln.word : Ln → List UInt8
 | .head _ _ => wBook
 | .good _ => wGood
 | .entry _ => wEntry
def Ln.kind : Ln → Int
 | .head _ _ => 0
 | .good _ => 1
 | .entry _ => 2
def Ln.text (l : Ln) : List UInt8 := lineT l.word l.nums
def lnsB (b : Book) : List Ln := .head b.editions b.moves :: (b.goods.map .good ++ b.entries.map .entry)
theorem lnsB_text (b : Book) : (lnsB b).map Ln.text = linesT b := by
 unfold lnsB linesT rowsT
 simp [Ln.text, Ln.word, Ln.nums, Function.comp_def]
theorem lnsB_len (b : Book) : (lnsB b).length = 1 + b.goods.length + b.entries.length := by
 unfold lnsB; simp; omega
def Ln.val : Ln → Value
 | .head e m => .iface 221 (.agg #[.int .i64 e, .int .i64 m])
 | .good g => .iface 223 (.agg #[.int .i64 g])
 | .entry x => .iface 225 (.agg #[.int .i64 x.1, .int .i64 x.2.1, .int .i64 x.2.2])
abbrev strV (l : List UInt8) : Value := .string ⟨l.toArray⟩
/-! ### words and kind -/
theorem words_any (w : World) : Calls Tryz.prog 105 #[] w fun e w' => e = .returned (.agg #[strV wBook, strV wGood, strV wEntry]) ∧ Ext w w' := by
 go_enter Tryz.func105, Tryz.ntmps105
 go_wp2
 exact bodyPost_ret (v := .agg #[strV wBook, strV wGood, strV wEntry]) (by simp [results, Tryz.f105, go_sem, wBook, wGood, wEntry]) rfl ⟨rfl, (Ext.refl _).alloc _⟩
theorem ta_h1 (p : Value) (w : World) : (Instr.typeAssert (.iface 221 p) 198 221 true).run Tryz.prog w = .ok (.tuple #[p, .bool true]) w := by kernel_rfl
theorem ta_g1 (p : Value) (w : World) : (Instr.typeAssert (.iface 223 p) 198 221 true).run Tryz.prog w = .ok (.tuple #[.agg #[.int .i64 0, .int .i64 0], .bool false]) w := by kernel_rfl
theorem ta_g2 (p : Value) (w : World) : (Instr.typeAssert (.iface 223 p) 198 223 true).run Tryz.prog w = .ok (.tuple #[p, .bool true]) w := by kernel_rfl
theorem ta_e1 (p : Value) (w : World) : (Instr.typeAssert (.iface 225 p) 198 221 true).run Tryz.prog w = .ok (.tuple #[.agg #[.int .i64 0, .int .i64 0], .bool false]) w := by kernel_rfl
theorem ta_e2 (p : Value) (w : World) : (Instr.typeAssert (.iface 225 p) 198 223 true).run Tryz.prog w = .ok (.tuple #[.agg #[.int .i64 0], .bool false]) w := by kernel_rfl
theorem kind_any (l : Ln) (w : World) : Calls Tryz.prog 133 #[l.val] w fun e w' => e = .returned (.int .i64 l.kind) ∧ w' = w := by
 have t1 := ta_h1
 have t2 := ta_g1
 have t3 := ta_g2
 have t4 := ta_e1
 have t5 := ta_e2
 cases l <;>
 ·unfold Ln.val
  go_enter Tryz.func133, Tryz.ntmps133
  go_wp2
  go_ret
  exact ⟨rfl, rfl⟩
theorem head_nums (p q : Int) (w : World) : Calls Tryz.prog 204 #[.agg #[.int .i64 p, .int .i64 q]] w fun e w' => ∃ b, e = .returned (.slice (some ⟨b, 0, none⟩) 2 2) ∧ Ext w w' ∧ IntsAt w' (.slice (some ⟨b, 0, none⟩) 2 2) [p, q] := by
 go_enter Tryz.func204, Tryz.ntmps204
 go_wp2
 go_ret
 refine ⟨_, rfl, ((Ext.refl w).alloc _).alloc _, ?_⟩
 have := RowAt.new (w.alloc (.cells #[.int .i64 p, .int .i64 q] 221)) #[.int .i64 p, .int .i64 q] 3 2 2 (Nat.le_refl _) (by unfold maxLen; omega)
 rwa [World.size_alloc] at this
theorem good_nums (p : Int) (w : World) : Calls Tryz.prog 205 #[.agg #[.int .i64 p]] w fun e w' => ∃ b, e = .returned (.slice (some ⟨b, 0, none⟩) 1 1) ∧ Ext w w' ∧ IntsAt w' (.slice (some ⟨b, 0, none⟩) 1 1) [p] := by
 go_enter Tryz.func205, Tryz.ntmps205
 go_wp2
 go_ret
 refine ⟨_, rfl, ((Ext.refl w).alloc _).alloc _, ?_⟩
 have := RowAt.new (w.alloc (.cells #[.int .i64 p] 223)) #[.int .i64 p] 3 1 1 (Nat.le_refl _) (by unfold maxLen; omega)
 rwa [World.size_alloc] at this
theorem entry_nums (p q r : Int) (w : World) : Calls Tryz.prog 206 #[.agg #[.int .i64 p, .int .i64 q, .int .i64 r]] w fun e w' => ∃ b, e = .returned (.slice (some ⟨b, 0, none⟩) 3 3) ∧ Ext w w' ∧ IntsAt w' (.slice (some ⟨b, 0, none⟩) 3 3) [p, q, r] := by
 go_enter Tryz.func206, Tryz.ntmps206
 go_wp2
 go_ret
 refine ⟨_, rfl, ((Ext.refl w).alloc _).alloc _, ?_⟩
 have := RowAt.new (w.alloc (.cells #[.int .i64 p, .int .i64 q, .int .i64 r] 225)) #[.int .i64 p, .int .i64 q, .int .i64 r] 3 3 3 (Nat.le_refl _) (by unfold maxLen; omega)
 rwa [World.size_alloc] at this
theorem mt_h (p : Value) (w : World) : (method 370 221 p "nacre/order.numbers").run Tryz.prog w = .ok (204, p) w := by kernel_rfl
theorem mt_g (p : Value) (w : World) : (method 370 223 p "nacre/order.numbers").run Tryz.prog w = .ok (205, p) w := by kernel_rfl
theorem mt_e (p : Value) (w : World) : (method 370 225 p "nacre/order.numbers").run Tryz.prog w = .ok (206, p) w := by kernel_rfl
theorem E_lns : Elem Tryz.prog 195 198 1 16 .nilIface := by
 obtain ⟨i, h1, h2, h3, h4⟩ := info_parts (show (Tryz.prog.info? 198).map (fun i => (i.zero, i.size, i.bytes)) = some (some .nilIface, 1, 16) by kernel_rfl)
 exact ⟨Tryz.underlying195, ⟨i, h1, h2, h3, h4⟩, rfl, by decide⟩
end Go.Proofs.YtokananogogjaaaGreatDoor

/- lines: all lines of a book but the last one. -/
namespace Go.Proofs.YtokananogogjaaaGreatDoor
open Go.RowKit
def lnsG (b : Book) (k : Nat) : List Ln := .head b.editions b.moves :: (b.goods.take k).map .good
def lnsE (b : Book) (k : Nat) : List Ln := .head b.editions b.moves :: (b.goods.map .good ++ (b.entries.take k).map .entry)
theorem lnsG_succ {b : Book} {k : Nat} {x : Int} (h : b.goods[k]? = some x) : lnsG b (k + 1) = lnsG b k ++ [.good x] := by
 unfold lnsG; rw [List.take_add_one, h]; simp
theorem lnsE_succ {b : Book} {k : Nat} {x : Int × Int × Int} (h : b.entries[k]? = some x) : lnsE b (k + 1) = lnsE b k ++ [.entry x] := by
 unfold lnsE; rw [List.take_add_one, h]; simp
theorem owns_one {w : World} {base : Nat} {e : TypeId} (x : Value) (hb : base ≤ w.heap.size) : (w.alloc (.cells #[x] e)).ownsRow base e 1 (.slice (some ⟨w.heap.size, 0, none⟩) 1 1) 1 [x] :=
 ⟨rfl, .inr ⟨w.heap.size, 1, #[x], rfl, hb, World.alloc_heap_new w _, Nat.le_refl _, by unfold maxLen; omega, rfl, rfl⟩⟩
set_option maxRecDepth 100000 in
set_option maxHeartbeats 1000000 in
theorem lines_any (v : Value) (b : Book) (w : World) (hb : BookAt w v b) (hn : b.goods.length ≤ 400 ∧ b.entries.length ≤ 400) :
  Calls Tryz.prog 132 #[v] w fun e w' => ∃ g cap, e = .returned (.slice (some ⟨g, 0, none⟩) (lnsB b).length cap) ∧ Ext w w' ∧ RowAt w' (.slice (some ⟨g, 0, none⟩) (lnsB b).length cap) (lnsB b).length ((lnsB b).map Ln.val) := by
 obtain ⟨gv, ev, rfl, hg, he⟩ := hb
 obtain ⟨ga, gc, rfl, g1, g2, g3⟩ := hg.open
 obtain ⟨ea, ec, rfl, e1, e2, e3⟩ := RowOf.open3 (f := entryC) (f0 := fun x => .int .i64 x.1) (f1 := fun x => .int .i64 x.2.1) (f2 := fun x => .int .i64 x.2.2) (fun _ => rfl) he
 obtain ⟨W1, HW⟩ : ∃ W1, Hid (W1 = w.alloc (bookBox (.slice ga b.goods.length gc) b (.slice ea b.entries.length ec))) := ⟨_, rfl⟩
 have HS1 : Hid (W1.heap.size = w.heap.size + 1) := by unfold Hid; rw [HW.out]; simp
 have hx1 : Ext w W1 := by rw [HW.out]; exact (Ext.refl w).alloc _
 have HB : Hid (∀ W, Ext W1 W → BoxAt W w.heap.size (.slice ga b.goods.length gc) b (.slice ea b.entries.length ec)) := fun W h => BoxAt.ext (by rw [HW.out]; exact BoxAt.new w _ b _) h
 have HG := Lib.hid g3
 have HE := Lib.hid e3
 have HF := Lib.hid hn
 clear g3 e3 hn hg he
 go_enter Tryz.func132, Tryz.ntmps132
 go_upto_region 1 with fail
 rw [← HW.out]
 obtain ⟨b0, b1, b2, b3⟩ := HB.out W1 (Ext.refl _)
 have hown0 : (W1.alloc (.cells #[(Ln.head b.editions b.moves).val] 198)).ownsRow W1.heap.size 198 1 (.slice (some ⟨W1.heap.size, 0, none⟩) 1 1) (0 + 1) ((lnsG b 0).map Ln.val) := owns_one _ (Nat.le_refl _)
 have hxa : Ext W1 (W1.alloc (.cells #[(Ln.head b.editions b.moves).val] 198)) := (Ext.refl _).alloc _
 obtain ⟨c0, c1, c2, c3⟩ := HB.out _ hxa
 unfold Ln.val at hown0 hxa c0 c1 c2 c3
 have HO := Lib.hid hown0
 have HXA := Lib.hid hxa
 clear hown0 hxa
 go_wp2
 go_loopw [3, 18] (fun o j wr => ∃ k : Nat, k ≤ b.goods.length ∧ j = .int .i64 (k : Int) ∧ wr.ownsRow W1.heap.size 198 1 o (k + 1) ((lnsG b k).map Ln.val) ∧ Ext W1 wr ∧ W1.heap.size ≤ wr.heap.size) (fun _ j _ => b.goods.length - (intOf j).toNat)
 case atStart => exact ⟨0, Nat.zero_le _, rfl, HO.out, HXA.out, HXA.out.size⟩
 case round =>
  obtain ⟨k, hk, rfl, hown, hx, hsz⟩ := hrel
  obtain ⟨hn1, hn2⟩ := HF.out
  have HSZ : Hid (k + 1 + 1 ≤ maxLen ∧ (k + 1 + 1) * 16 ≤ 140737488355328) := by unfold Hid maxLen; omega
  have HOW := Lib.hid hown
  clear hown c0 c1 c2 c3
  by_cases hlt : k < b.goods.length
  ·obtain ⟨bk, o, x, rfl, hxk, q0⟩ := HG.out k hlt
   have d0 := (hx1.trans hx).cell q0
   have HUP := Lib.hid (lnsG_succ hxk.out)
   clear q0
   go_wp2_with (first
    | (at_builtin; refine wpList_push_at E_lns rfl _ _ rfl W1.heap.size rfl (owns_ext HOW.out ((Ext.refl _).alloc _)) rfl (by simp) rfl (by simp [Value.oneCell']) ?_ HSZ.out.1 HSZ.out.2 (Nat.le_trans hsz (by simp)); intro g cap w5 hown' hext hgr _))
   go_roundw
   case rel => exact ⟨k + 1, by omega, by go_num, by rw [HUP.out, List.map_append]; exact hown', hext _ (hx.alloc _) (Nat.le_refl _), (hext _ (hx.alloc _) (Nat.le_refl _)).size⟩
   case measure => simp [intOf]; omega
  ·have hke : k = b.goods.length := by omega
   subst hke
   obtain ⟨c0, c1, c2, c3⟩ := HB.out _ hx
   have HO2 : Hid (wr.ownsRow W1.heap.size 198 1 u3 (b.goods.length + 0 + 1) ((lnsE b 0).map Ln.val)) := by
    have := HOW.out
    unfold lnsG at this
    rw [List.take_length] at this
    unfold lnsE
    simpa [Hid] using this
   go_wp2
   go_loopw [3, 33] (fun o j wr => ∃ k : Nat, k ≤ b.entries.length ∧ j = .int .i64 (k : Int) ∧ wr.ownsRow W1.heap.size 198 1 o (b.goods.length + k + 1) ((lnsE b k).map Ln.val) ∧ Ext W1 wr ∧ W1.heap.size ≤ wr.heap.size) (fun _ j _ => b.entries.length - (intOf j).toNat)
   case atStart => exact ⟨0, Nat.zero_le _, rfl, HO2.out, hx, hsz⟩
   case round =>
    clear hx hsz
    obtain ⟨k, hk2, rfl, hown, hx, hsz⟩ := hrel
    have HSZ : Hid (b.goods.length + k + 1 + 1 ≤ maxLen ∧ (b.goods.length + k + 1 + 1) * 16 ≤ 140737488355328) := by unfold Hid maxLen; omega
    have HOW := Lib.hid hown
    clear hown c0 c1 c2 c3
    by_cases hle : k < b.entries.length
    ·obtain ⟨bk, o, x, rfl, hxk, q0, q1, q2⟩ := HE.out k hle
     have d0 := (hx1.trans hx).cell q0
     have d1 := (hx1.trans hx).cell q1
     have d2 := (hx1.trans hx).cell q2
     have HUP := Lib.hid (lnsE_succ hxk.out)
     clear q0 q1 q2
     go_wp2_with (first
      | (at_builtin; refine wpList_push_at E_lns rfl _ _ rfl W1.heap.size rfl (owns_ext HOW.out ((Ext.refl _).alloc _)) rfl (by simp) rfl (by simp [Value.oneCell']) ?_ HSZ.out.1 HSZ.out.2 (Nat.le_trans hsz (by simp)); intro g cap w5 hown' hext hgr _))
     go_roundw
     case rel => exact ⟨k + 1, by omega, by go_num, by rw [HUP.out, List.map_append]; exact hown', hext _ (hx.alloc _) (Nat.le_refl _), (hext _ (hx.alloc _) (Nat.le_refl _)).size⟩
     case measure => simp [intOf]; omega
    ·have hke : k = b.entries.length := by omega
     subst hke
     have HL : Hid (lnsE b b.entries.length = lnsB b) := by unfold Hid lnsE lnsB; rw [List.take_length]
     have HN : Hid ((lnsB b).length = b.goods.length + b.entries.length + 1) := by unfold Hid; rw [lnsB_len]; omega
     have hR := RowAt.of_owns HOW.out
     obtain ⟨g, cap, hv⟩ := owns_succ HOW.out
     have HR := Lib.hid hR
     have HV := Lib.hid hv
     clear hR hv
     go_wp2
     go_ret
     rw [HL.out] at HR
     refine ⟨g, cap, ?_, hx1.trans hx, ?_⟩
     ·rw [HN.out, HV.out]; rfl
     ·have := HR.out
      rw [HV.out] at this
      rw [HN.out]
      exact this
end Go.Proofs.YtokananogogjaaaGreatDoor
