/- The library's functions that the program calls, as the shelf's contracts ask for them: the numbers of functions and types, field by field. -/
import Derived.Shelf.LaysM
import Derived.Shelf.Lays
import Derived.Shelf.Strings.Split
import Derived.Test.YtdmdabhdcpjkiaaGreatDoorProg
import Derived.Test.YtdmdabhdcpjkiaaGreatDoorTextp
import Derived.Laws.RangeAny
namespace Go.Proofs.YtdmdabhdcpjkiaaGreatDoor
open Go.Shelf
def Tryz.splitS_ren : Go.Shelf.Ren := ⟨fun | 146 => 114 | 221 => 148 | 268 => 175 | 138 => 176 | 143 => 177 | 195 => 192 | 197 => 193 | 218 => 194 | 219 => 195 | 260 => 202 | 217 => 203 | 225 => 204 | 224 => 205 | 267 => 206 | 266 => 209 | 314 => 210 | n => n, fun | 9 => 9 | 31 => 130 | 3 => 3 | 4 => 4 | 0 => 0 | 105 => 270 | 21 => 21 | 5 => 5 | 46 => 110 | 119 => 279 | 139 => 282 | 138 => 281 | 146 => 283 | 51 => 243 | n => n, fun | 1 => 0 | 3 => 2 | 4 => 3 | n => n⟩
theorem Tryz.splitS : Go.Proofs.LaysM.n146 Tryz.prog Tryz.splitS_ren := {
 mixed := by kernel_rfl
 f138 := Tryz.func176.trans (congrArg some (by kernel_rfl))
 f143 := Tryz.func177.trans (congrArg some (by kernel_rfl))
 f146 := Tryz.func114.trans (congrArg some (by kernel_rfl))
 f195 := Tryz.func192.trans (congrArg some (by kernel_rfl))
 f197 := Tryz.func193.trans (congrArg some (by kernel_rfl))
 f217 := Tryz.func203.trans (congrArg some (by kernel_rfl))
 f218 := Tryz.func194.trans (congrArg some (by kernel_rfl))
 f219 := Tryz.func195.trans (congrArg some (by kernel_rfl))
 f221 := Tryz.func148.trans (congrArg some (by kernel_rfl))
 f224 := Tryz.func205.trans (congrArg some (by kernel_rfl))
 f225 := Tryz.func204.trans (congrArg some (by kernel_rfl))
 f260 := Tryz.func202.trans (congrArg some (by kernel_rfl))
 f266 := Tryz.func209.trans (congrArg some (by kernel_rfl))
 f267 := Tryz.func206.trans (congrArg some (by kernel_rfl))
 f268 := Tryz.func175.trans (congrArg some (by kernel_rfl))
 f314 := Tryz.func210.trans (congrArg some (by kernel_rfl))
 t0 := Tryz.underlying0
 a0 := Tryz.isAgg0
 z0 := Tryz.sizeOf0
 v0 := Tryz.zeroValue0
 t3 := Tryz.underlying3
 a3 := Tryz.isAgg3
 z3 := Tryz.sizeOf3
 v3 := Tryz.zeroValue3
 t4 := Tryz.underlying4
 a4 := Tryz.isAgg4
 z4 := Tryz.sizeOf4
 v4 := Tryz.zeroValue4
 t5 := Tryz.underlying5
 a5 := Tryz.isAgg5
 z5 := Tryz.sizeOf5
 v5 := Tryz.zeroValue5
 t9 := Tryz.underlying9
 a9 := Tryz.isAgg9
 z9 := Tryz.sizeOf9
 v9 := Tryz.zeroValue9
 t21 := Tryz.underlying21
 a21 := Tryz.isAgg21
 z21 := Tryz.sizeOf21
 v21 := Tryz.zeroValue21
 t31 := Tryz.underlying130
 a31 := Tryz.isAgg130
 z31 := Tryz.sizeOf130
 v31 := Tryz.zeroValue130
 t46 := Tryz.underlying110
 a46 := Tryz.isAgg110
 z46 := Tryz.sizeOf110
 v46 := Tryz.zeroValue110
 t51 := Tryz.underlying243
 a51 := Tryz.isAgg243
 z51 := Tryz.sizeOf243
 v51 := Tryz.zeroValue243
 t105 := Tryz.underlying270
 a105 := Tryz.isAgg270
 z105 := Tryz.sizeOf270
 v105 := Tryz.zeroValue270
 t119 := Tryz.underlying279
 a119 := Tryz.isAgg279
 z119 := Tryz.sizeOf279
 t138 := Tryz.underlying281
 a138 := Tryz.isAgg281
 z138 := Tryz.sizeOf281
 v138 := Tryz.zeroValue281
 t139 := Tryz.underlying282
 a139 := Tryz.isAgg282
 z139 := Tryz.sizeOf282
 v139 := Tryz.zeroValue282
 t146 := Tryz.underlying283
 a146 := Tryz.isAgg283
 z146 := Tryz.sizeOf283
 v146 := Tryz.zeroValue283
 g1 := by kernel_rfl
 g3 := by kernel_rfl
 g4 := by kernel_rfl
 i0 := by kernel_rfl
 i3 := by kernel_rfl
 i4 := by kernel_rfl
 i5 := by kernel_rfl
 i9 := by kernel_rfl
 i21 := by kernel_rfl
 i31 := by kernel_rfl
 i46 := by kernel_rfl
 i51 := by kernel_rfl
 i105 := by kernel_rfl
 i138 := by kernel_rfl
 i139 := by kernel_rfl
 i146 := by kernel_rfl
 m1 := by kernel_rfl
 s1_3 := fun w h => Go.Proofs.cell_of_shapedOpen_int (zero := #[.int .i64 0]) (t := 3) h (of_decide_eq_true (by kernel_rfl)) (by kernel_rfl) rfl (by kernel_rfl) (by kernel_rfl) Tryz.underlying3
 m3 := by kernel_rfl
 m4 := by kernel_rfl }
end Go.Proofs.YtdmdabhdcpjkiaaGreatDoor

/- Reading: strings.Split, sure, number. -/
namespace Go.Proofs.YtdmdabhdcpjkiaaGreatDoor
open Go.RowKit
def MaxOk (w : World) : Prop := ∃ m, w.cell? ⟨0, 0, none⟩ = some (.int .i64 m)
theorem MaxOk.ext {w w' : World} (h : MaxOk w) (k : Ext w w') : MaxOk w' := by obtain ⟨m, hm⟩ := h; exact ⟨m, k.cell hm⟩
theorem max_shaped {w : World} (h : w.ShapedOpen Tryz.prog) : MaxOk w := Tryz.splitS.s1_3 w h
theorem pieces_eq (l : List ByteArray) : l.map Value.string = (l.map (·.data.toList)).map strV := by
 rw [List.map_map]
 refine List.map_congr_left fun x _ => ?_
 show Value.string x = Value.string ⟨x.data.toList.toArray⟩
 rw [Array.toArray_toList]
theorem split_any (s : List UInt8) (c : UInt8) (w : World) (hm : MaxOk w) (hs : s.length ≤ 1000) :
  Calls Tryz.prog 114 #[strV s, .string ⟨#[c]⟩] w fun e w' => ∃ b, e = .returned (.slice (some ⟨b, 0, none⟩) (splitL c s).length (splitL c s).length) ∧ Ext w w' ∧ StrsAt w' (.slice (some ⟨b, 0, none⟩) (splitL c s).length (splitL c s).length) (splitL c s) := by
 obtain ⟨m, hm⟩ := hm
 have hcs := Any.strings_Split { Tryz.splitS with } Tryz.splitS.i9 ⟨s.toArray⟩ ⟨#[c]⟩ m w (by show s.toArray.size < _; simp; omega) hm (by show 1 ≤ (#[c] : Array UInt8).size; simp)
 have hk : Lib.countB ⟨s.toArray⟩ ⟨#[c]⟩ = Lib.count s [c] := rfl
 have hd := Lib.splitB_data ⟨#[c]⟩ 0 (Lib.countB ⟨s.toArray⟩ ⟨#[c]⟩) ⟨s.toArray⟩
 rw [hk] at hd
 have hd2 : (Lib.splitB ⟨#[c]⟩ 0 (Lib.count s [c]) ⟨s.toArray⟩).map (·.data.toList) = splitL c s := by
  rw [hd]
  have := splitL_eq c s
  simpa using this
 have hl : (splitL c s).length = Lib.count s [c] + 1 := by
  rw [← hd2, List.length_map]
  exact Lib.splitB_all ⟨#[c]⟩ (by show 1 ≤ (#[c] : Array UInt8).size; simp) 0 _ ⟨s.toArray⟩ hk
 have hb : Lib.count s [c] ≤ s.length + 1 := Lib.count_le s [c]
 refine hcs.mono fun e w' h => ?_
 obtain ⟨rfl, rfl⟩ := h
 rw [hk, ← hl, pieces_eq, hd2]
 refine ⟨w.heap.size, rfl, (Ext.refl w).alloc _, ?_⟩
 have := RowAt.new w ((splitL c s).map strV).toArray (Tryz.splitS_ren.t 9) (splitL c s).length (splitL c s).length (Nat.le_refl _) (by unfold maxLen; omega)
 simpa [StrsAt] using this
/-! ### Giving up -/
def strangeV (why : ByteArray) : Value := .iface 127 (.agg #[.string why])
def StrangeP (w : World) (e : Ending) (w' : World) : Prop := ∃ why, e = .panicked [{ v := strangeV why, recovered := false }] ∧ Ext w w'
theorem sure_yes (why : ByteArray) (w : World) : Calls Tryz.prog 116 #[.bool true, .string why] w fun e w' => e = .returned (.tuple #[]) ∧ w' = w := by
 go_enter Tryz.func116, Tryz.ntmps116
 go_wp2
 go_end0
 exact ⟨rfl, rfl⟩
theorem sure_no (why : ByteArray) (w : World) : Calls Tryz.prog 116 #[.bool false, .string why] w (StrangeP w) := by
 go_enter Tryz.func116, Tryz.ntmps116
 go_wp2
 exact ⟨rfl, why, rfl, Ext.refl _⟩
theorem size_str (s : List UInt8) : (⟨s.toArray⟩ : ByteArray).size = s.length := by show s.toArray.size = _; simp
theorem str_at {s : List UInt8} {pos : Nat} {b : UInt8} (hb : s[pos]? = some b) (h : pos < (⟨s.toArray⟩ : ByteArray).size) : (⟨s.toArray⟩ : ByteArray)[pos]'h = b := by
 obtain ⟨h1, rfl⟩ := List.getElem?_eq_some_iff.1 hb
 show s.toArray[pos] = s[pos]
 simp
theorem next_digit (s : List UInt8) (w : World) {pos : Nat} {b : UInt8} (hb : s[pos]? = some b) (ha : b.toNat < 128) : ∀ ty, (Instr.next (.pointer (some ⟨w.heap.size, 0, none⟩)) true ty).run Tryz.prog (w.iter ⟨s.toArray⟩ pos) = .ok (.tuple #[.bool true, .int .i64 pos, .int .i32 b.toNat]) (w.iter ⟨s.toArray⟩ (pos + 1)) := fun ty => by
 have hp : pos < (⟨s.toArray⟩ : ByteArray).size := by rw [size_str]; exact (List.getElem?_eq_some_iff.1 hb).1
 have h1 := str_at hb hp
 rw [run_next_ascii w ⟨s.toArray⟩ pos ty hp (by rw [h1]; exact ha), h1]
set_option maxRecDepth 100000 in
set_option maxHeartbeats 4000000 in
theorem number_yes (s : List UInt8) (w : World) (ht : TabOk w) (hn : numOk s = true) : Calls Tryz.prog 149 #[strV s] w fun e w' => e = .returned (.int .i64 (valT s)) ∧ Ext w w' := by
 obtain ⟨n1, n2, n3, n4, n5, n6⟩ := num_ok hn
 have HB := Lib.hid (val_bd n6)
 have HD := Lib.hid n6
 have HIT := Lib.hid (fun w1 (hx : Ext w w1) => itoa_any (valT s) (by omega) (by omega) w1 (ht.ext hx))
 rw [n3] at HIT
 have hsz := size_str s
 clear hn ht n3 n6
 go_enter Tryz.func149, Tryz.ntmps149
 go_wp2
 go_loopw [3] (fun n w' => ∃ pos : Nat, pos ≤ s.length ∧ w' = w.iter ⟨s.toArray⟩ pos ∧ n = .int .i64 (valT (s.take pos))) (fun _ w' => s.length - w'.iterPos w.heap.size)
 case atStart => exact ⟨0, Nat.zero_le _, rfl, rfl⟩
 case round =>
  obtain ⟨pos, hpos, rfl, rfl⟩ := hrel
  have hxi : Ext w (w.iter ⟨s.toArray⟩ pos) := (Ext.refl w).alloc _
  by_cases hp : pos < s.length
  ·obtain ⟨b, hb⟩ : ∃ b, s[pos]? = some b := ⟨_, List.getElem?_eq_getElem hp⟩
   have hdb : digB b = true := by have := HD.out; rw [List.all_eq_true] at this; exact this b (List.mem_of_getElem? hb)
   simp only [digB, Bool.and_eq_true, decide_eq_true_eq] at hdb
   obtain ⟨g1, g2⟩ := hdb
   have hnx := next_digit s w hb (by omega)
   have hbd := HB.out pos
   have HVS : Hid (valT (s.take (pos + 1)) = 10 * valT (s.take pos) + ((b.toNat : Int) - 48)) := by unfold Hid; rw [List.take_add_one, hb, Option.toList_some, valT_snoc]
   have hpl : (s.take pos).length ≤ 3 := by rw [List.length_take]; omega
   have hpw := pow10_le hpl
   obtain ⟨c0, c1⟩ := hbd
   have d1 : decide ((48 : Int) ≤ (b.toNat : Int)) = true := by simp; omega
   have d2 : decide ((b.toNat : Int) ≤ 57) = true := by simp; omega
   have d3 : decide ((s.length : Int) ≤ 3) = true := by simp; omega
   have d4 : decide (s.length ≤ 3) = true := by simp; omega
   have d5 : decide (48 ≤ b.toNat) = true := by simp; omega
   have d6 : decide (b.toNat ≤ 57) = true := by simp; omega
   generalize valT (s.take pos) = v at *
   have c2 : v ≤ 1000 := by omega
   have E1 : IntKind.i64.wrap (10 * v) = 10 * v := IntWalk.i64_in _ (by omega)
   have E2 : IntKind.i32.wrap ((b.toNat : Int) - 48) = (b.toNat : Int) - 48 := IntWalk.i32_in _ (by omega)
   have E4 : IntKind.i64.wrap ((b.toNat : Int) - 48) = (b.toNat : Int) - 48 := IntWalk.i64_in _ (by omega)
   have E3 : IntKind.i64.wrap (10 * v + ((b.toNat : Int) - 48)) = 10 * v + ((b.toNat : Int) - 48) := IntWalk.i64_in _ (by omega)
   clear c0 c1 hpw
   go_wp2_with (go_at_call 116; refine (sure_yes _ _).mono ?_; rintro e w' ⟨rfl, rfl⟩)
   go_roundw
   case rel => exact ⟨pos + 1, by omega, rfl, by rw [HVS.out]⟩
   case measure => simp; omega
  ·have hpe : pos = s.length := by omega
   have hnx : ∀ ty, (Instr.next (.pointer (some ⟨w.heap.size, 0, none⟩)) true ty).run Tryz.prog (w.iter ⟨s.toArray⟩ pos) = _ := fun ty => run_next_end w ⟨s.toArray⟩ pos ty (by rw [size_str]; exact hp)
   have HVE : Hid (valT (s.take pos) = valT s) := by unfold Hid; rw [List.take_of_length_le (by omega)]
   rw [HVE.out]
   have hse : s.isEmpty = false := by simpa using n4
   clear hpe n4
   go_wp2_with (first
    | (go_at_call 113; refine (HIT.out _ hxi).mono ?_; rintro e w1 ⟨rfl, hx1⟩)
    | (go_at_call 116; refine (sure_yes _ _).mono ?_; rintro e w' ⟨rfl, rfl⟩))
   go_ret
   exact ⟨rfl, hxi.trans hx1⟩
set_option maxRecDepth 100000 in
set_option maxHeartbeats 8000000 in
theorem number_no (s : List UInt8) (w : World) (ht : TabOk w) (hn : numOk s = false) : Calls Tryz.prog 149 #[strV s] w (StrangeP w) := by
 have HIT := Lib.hid (fun w1 (hx : Ext w w1) n (h0 : 0 ≤ n) (h1 : n ≤ 1000) => itoa_any n (by omega) (by omega) w1 (ht.ext hx))
 have hsz := size_str s
 have HN := Lib.hid hn
 clear ht hn
 go_enter Tryz.func149, Tryz.ntmps149
 go_wp2
 go_loopw [3] (fun n w' => ∃ pos : Nat, pos ≤ s.length ∧ w' = w.iter ⟨s.toArray⟩ pos ∧ n = .int .i64 (valT (s.take pos)) ∧ Hid ((s.take pos).all digB = true ∧ (pos = 0 ∨ s.length ≤ 3))) (fun _ w' => s.length - w'.iterPos w.heap.size)
 case atStart => exact ⟨0, Nat.zero_le _, rfl, rfl, by simp, .inl rfl⟩
 case round =>
  obtain ⟨pos, hpos, rfl, rfl, hall⟩ := hrel
  have hxi : Ext w (w.iter ⟨s.toArray⟩ pos) := (Ext.refl w).alloc _
  have HBD := Lib.hid (val_bd hall.out.1 pos)
  by_cases hp : pos < s.length
  ·obtain ⟨b, hb⟩ : ∃ b, s[pos]? = some b := ⟨_, List.getElem?_eq_getElem hp⟩
   by_cases hg : digB b = true ∧ s.length ≤ 3
   ·obtain ⟨hdb, n5⟩ := hg
    have HAL : Hid ((s.take (pos + 1)).all digB = true ∧ (pos + 1 = 0 ∨ s.length ≤ 3)) := ⟨by rw [List.take_add_one, hb, Option.toList_some, List.all_append, hall.out.1]; simp [hdb], .inr n5⟩
    simp only [digB, Bool.and_eq_true, decide_eq_true_eq] at hdb
    obtain ⟨g1, g2⟩ := hdb
    have hnx := next_digit s w hb (by omega)
    have hbd := HBD.out
    rw [List.take_take, Nat.min_self] at hbd
    have HVS : Hid (valT (s.take (pos + 1)) = 10 * valT (s.take pos) + ((b.toNat : Int) - 48)) := by unfold Hid; rw [List.take_add_one, hb, Option.toList_some, valT_snoc]
    have hpl : (s.take pos).length ≤ 3 := by rw [List.length_take]; omega
    have hpw := pow10_le hpl
    obtain ⟨c0, c1⟩ := hbd
    have d1 : decide ((48 : Int) ≤ (b.toNat : Int)) = true := by simp; omega
    have d2 : decide ((b.toNat : Int) ≤ 57) = true := by simp; omega
    have d3 : decide ((s.length : Int) ≤ 3) = true := by simp; omega
    have d4 : decide (s.length ≤ 3) = true := by simp; omega
    have d5 : decide (48 ≤ b.toNat) = true := by simp; omega
    have d6 : decide (b.toNat ≤ 57) = true := by simp; omega
    generalize valT (s.take pos) = v at *
    have c2 : v ≤ 1000 := by omega
    have E1 : IntKind.i64.wrap (10 * v) = 10 * v := IntWalk.i64_in _ (by omega)
    have E2 : IntKind.i32.wrap ((b.toNat : Int) - 48) = (b.toNat : Int) - 48 := IntWalk.i32_in _ (by omega)
    have E4 : IntKind.i64.wrap ((b.toNat : Int) - 48) = (b.toNat : Int) - 48 := IntWalk.i64_in _ (by omega)
    have E3 : IntKind.i64.wrap (10 * v + ((b.toNat : Int) - 48)) = 10 * v + ((b.toNat : Int) - 48) := IntWalk.i64_in _ (by omega)
    clear c0 c1 hpw
    go_wp2_with (go_at_call 116; refine (sure_yes _ _).mono ?_; rintro e w' ⟨rfl, rfl⟩)
    go_roundw
    case rel => exact ⟨pos + 1, by omega, rfl, by rw [HVS.out], HAL.out⟩
    case measure => simp; omega
   ·have hlt : pos < (⟨s.toArray⟩ : ByteArray).size := by rw [hsz]; exact hp
    have hat := str_at hb hlt
    obtain ⟨r, wd, hrw, hbad⟩ : ∃ r wd : Nat, Utf8.decode ⟨s.toArray⟩ pos = (r, wd) ∧ ¬ (48 ≤ r ∧ r ≤ 57 ∧ s.length ≤ 3) := by
     by_cases h8 : b.toNat < 128
     ·refine ⟨b.toNat, 1, by rw [decode_ascii _ pos hlt (by rw [hat]; exact h8), hat], fun h => hg ⟨?_, h.2.2⟩⟩
      simp only [digB, Bool.and_eq_true, decide_eq_true_eq]; omega
     ·have := (decode_high ⟨s.toArray⟩ pos hlt (by rw [hat]; omega)).1
      exact ⟨(Utf8.decode ⟨s.toArray⟩ pos).1, (Utf8.decode ⟨s.toArray⟩ pos).2, rfl, fun h => by omega⟩
    have hnx : ∀ ty, (Instr.next (.pointer (some ⟨w.heap.size, 0, none⟩)) true ty).run Tryz.prog (w.iter ⟨s.toArray⟩ pos) = .ok (.tuple #[.bool true, .int .i64 pos, .int .i32 r]) (w.iter ⟨s.toArray⟩ (pos + wd)) := fun ty => by
     rw [run_next_any w ⟨s.toArray⟩ pos ty hlt, hrw]
    have hxo : Ext w (w.iter ⟨s.toArray⟩ (pos + wd)) := (Ext.refl w).alloc _
    clear hg hat hrw hlt hb
    generalize valT (s.take pos) = v at *
    by_cases h1 : 48 ≤ r
    ·have d1 : decide ((48 : Int) ≤ (r : Int)) = true := by simp; omega
     have d1n : decide (48 ≤ r) = true := by simpa using h1
     by_cases h2 : r ≤ 57
     ·have d2 : decide ((r : Int) ≤ 57) = true := by simp; omega
      have d2n : decide (r ≤ 57) = true := by simpa using h2
      have d3 : decide ((s.length : Int) ≤ 3) = false := by simp; omega
      have d3n : decide (s.length ≤ 3) = false := by simp; omega
      clear h1 h2 hbad
      go_wp2_with (go_at_call 116; refine (sure_no _ _).mono ?_; rintro e w' ⟨why, rfl, hx⟩)
      exact ⟨rfl, why, rfl, hxo.trans hx⟩
     ·have d2 : decide ((r : Int) ≤ 57) = false := by simp; omega
      have d2n : decide (r ≤ 57) = false := by simpa using h2
      clear h1 h2 hbad
      go_wp2_with (go_at_call 116; refine (sure_no _ _).mono ?_; rintro e w' ⟨why, rfl, hx⟩)
      exact ⟨rfl, why, rfl, hxo.trans hx⟩
    ·have d1 : decide ((48 : Int) ≤ (r : Int)) = false := by simp; omega
     have d1n : decide (48 ≤ r) = false := by simpa using h1
     clear h1 hbad
     go_wp2_with (go_at_call 116; refine (sure_no _ _).mono ?_; rintro e w' ⟨why, rfl, hx⟩)
     exact ⟨rfl, why, rfl, hxo.trans hx⟩
  ·have hpe : pos = s.length := by omega
   have hnx : ∀ ty, (Instr.next (.pointer (some ⟨w.heap.size, 0, none⟩)) true ty).run Tryz.prog (w.iter ⟨s.toArray⟩ pos) = _ := fun ty => run_next_end w ⟨s.toArray⟩ pos ty (by rw [size_str]; exact hp)
   have hts : s.take pos = s := List.take_of_length_le (by omega)
   have hd := hall.out.1
   rw [hts] at hd ⊢
   by_cases he : s = []
   ·have hse : s.isEmpty = true := by rw [he]; rfl
    clear hpe hts hd he hall HBD HN hsz
    go_wp2_with (go_at_call 116; refine (sure_no _ _).mono ?_; rintro e w' ⟨why, rfl, hx⟩)
    exact ⟨rfl, why, rfl, hxi.trans hx⟩
   ·have hse : s.isEmpty = false := by simpa using he
    have h6 : s.length ≤ 3 := by
     rcases hall.out.2 with h | h
     ·exfalso; exact he (List.length_eq_zero_iff.1 (by omega))
     ·exact h
    have hbd := val_bd hd s.length
    rw [List.take_of_length_le (Nat.le_refl _)] at hbd
    have hpw := pow10_le h6
    have hne : ¬ Lib.itoa (valT s) = s := fun e => by
     have := HN.out
     unfold numOk at this
     rw [hd, decide_eq_true e, decide_eq_true he, decide_eq_true h6] at this
     cases this
    have HQ := Lib.hid (fun w1 (hx : Ext w w1) => HIT.out w1 hx (valT s) hbd.1 (by omega))
    have q1 : decide (Lib.itoa (valT s) = s) = false := by simpa using hne
    have q2 : (Lib.itoa (valT s) == s) = false := by simpa using hne
    clear hpe hts hd he h6 hbd hpw hall HBD
    generalize Lib.itoa (valT s) = q at *
    go_wp2_with (first
     | (go_at_call 113; refine (HQ.out _ hxi).mono ?_; rintro e w1 ⟨rfl, hx1⟩)
     | (go_at_call 116; refine (sure_no _ _).mono ?_; rintro e w' ⟨why, rfl, hx⟩))
    exact ⟨rfl, why, rfl, (hxi.trans hx1).trans hx⟩
end Go.Proofs.YtdmdabhdcpjkiaaGreatDoor

/- river.told: the numbers of a line, or giving up. -/
namespace Go.Proofs.YtdmdabhdcpjkiaaGreatDoor
open Go.RowKit
theorem owns_down {w : World} {base base' : Nat} {e : TypeId} {size : Nat} {v : Value} {n : Nat} {xs : List Value} (h : w.ownsRow base e size v n xs) (hb : base' ≤ base) : w.ownsRow base' e size v n xs := by
 refine ⟨h.1, ?_⟩
 rcases h.2 with h1 | ⟨g, cap, cur, h1, h2, h3⟩
 ·exact .inl h1
 ·exact .inr ⟨g, cap, cur, h1, by omega, h3⟩
set_option maxRecDepth 100000 in
set_option maxHeartbeats 8000000 in
theorem told_len (s word : List UInt8) (M : Nat) (w : World) (hm : MaxOk w) (hs : s.length ≤ 1000) (hM : 2 ≤ M ∧ M ≤ 3000) (hl : (splitL 32 s).length ≠ M + 1) : Calls Tryz.prog 115 #[strV s, strV word, .int .i64 M] w (StrangeP w) := by
 have HSP := Lib.hid (split_any s 32 w hm hs)
 have HSN := Lib.hid sure_no
 obtain ⟨M1, M2⟩ := hM
 have E1 : IntKind.i64.wrap ((M : Int) + 1) = (M : Int) + 1 := IntWalk.i64_in _ (by omega)
 have t1 : (((splitL 32 s).length : Int) == (M : Int) + 1) = false := by rw [beq_eq_false_iff_ne]; omega
 generalize (splitL 32 s).length = L at *
 clear hl M1 M2 hm
 go_enter Tryz.func115, Tryz.ntmps115
 go_wp2_with (first | (go_at_call 114; refine HSP.out.mono ?_; rintro e w1 ⟨b, rfl, hx1, hst⟩; clear hst) | (go_at_call 116; refine (HSN.out _ _).mono ?_; rintro e w9 ⟨why, rfl, hx9⟩))
 exact ⟨rfl, why, rfl, hx1.trans hx9⟩
set_option maxRecDepth 100000 in
set_option maxHeartbeats 8000000 in
theorem told_word (s word : List UInt8) (M : Nat) (w : World) (hm : MaxOk w) (hs : s.length ≤ 1000) (hM : 2 ≤ M ∧ M ≤ 3000) (hl : (splitL 32 s).length = M + 1) (hw : (splitL 32 s).headD [] ≠ word) : Calls Tryz.prog 115 #[strV s, strV word, .int .i64 M] w (StrangeP w) := by
 have HSP := Lib.hid (split_any s 32 w hm hs)
 have HSN := Lib.hid sure_no
 obtain ⟨M1, M2⟩ := hM
 have E1 : IntKind.i64.wrap ((M : Int) + 1) = (M : Int) + 1 := IntWalk.i64_in _ (by omega)
 have t1 : ((M : Int) + 1 == (M : Int) + 1) = true := by simp
 have b0 : (0 : Int) < (M : Int) + 1 := by omega
 have b0n : 0 < M + 1 := by omega
 rw [hl] at HSP
 obtain ⟨q, hq⟩ : ∃ q, Hid ((splitL 32 s)[0]? = some q) := by
  cases h : splitL 32 s with
  | nil => exact absurd h (splitL_ne 32 s)
  | cons x t => exact ⟨x, rfl⟩
 have hqd : (splitL 32 s).headD [] = q := by
  have hq := hq.out
  cases h : splitL 32 s with
  | nil => exact absurd h (splitL_ne 32 s)
  | cons x t => rw [h] at hq; simpa using hq
 rw [hqd] at hw
 have w1n : decide (q = word) = false := by simpa using hw
 have w2n : (q == word) = false := by simpa using hw
 clear hl hm hw hqd
 go_enter Tryz.func115, Tryz.ntmps115
 go_wp2_with (first | (go_at_call 114; refine HSP.out.mono ?_; rintro e w1 ⟨b, rfl, hx1, hst⟩; have z0 := strs_cell hst hq.out; clear hst) | (go_at_call 116; refine (HSN.out _ _).mono ?_; rintro e w9 ⟨why, rfl, hx9⟩))
 exact ⟨rfl, why, rfl, hx1.trans hx9⟩
set_option maxRecDepth 100000 in
set_option maxHeartbeats 8000000 in
theorem told_go (s word : List UInt8) (M : Nat) (w : World) (ht : TabOk w) (hm : MaxOk w) (hs : s.length ≤ 1000) (hM : 2 ≤ M ∧ M ≤ 3000) (hl : (splitL 32 s).length = M + 1) (hw : (splitL 32 s).headD [] = word) :
  Calls Tryz.prog 115 #[strV s, strV word, .int .i64 M] w fun e w' => ((∀ x, x ∈ (splitL 32 s).drop 1 → numOk x = true) ∧ ∃ v1, e = .returned v1 ∧ Ext w w' ∧ w'.ownsRow w.heap.size 3 1 v1 (toldN s).length ((toldN s).map (.int .i64))) ∨ ((¬ ∀ x, x ∈ (splitL 32 s).drop 1 → numOk x = true) ∧ StrangeP w e w') := by
 have HSP := Lib.hid (split_any s 32 w hm hs)
 have HSU := Lib.hid sure_yes
 obtain ⟨M1, M2⟩ := hM
 have E1 : IntKind.i64.wrap ((M : Int) + 1) = (M : Int) + 1 := IntWalk.i64_in _ (by omega)
 have t1 : ((M : Int) + 1 == (M : Int) + 1) = true := by simp
 have b0 : (0 : Int) < (M : Int) + 1 := by omega
 have b0n : 0 < M + 1 := by omega
 have hM0 : ¬ M = 0 := by omega
 have HL := Lib.hid hl
 have HNY := Lib.hid (fun l w1 (hx : Ext w w1) (h : numOk l = true) => number_yes l w1 (ht.ext hx) h)
 have HNN := Lib.hid (fun l w1 (hx : Ext w w1) (h : numOk l = false) => number_no l w1 (ht.ext hx) h)
 have HTLD : Hid ((toldN s).length = M) := by unfold Hid toldN; rw [List.length_map, List.length_drop]; omega
 rw [hl] at HSP
 obtain ⟨q, hq⟩ : ∃ q, Hid ((splitL 32 s)[0]? = some q) := by
  cases h : splitL 32 s with
  | nil => exact absurd h (splitL_ne 32 s)
  | cons x t => exact ⟨x, rfl⟩
 have hqd : (splitL 32 s).headD [] = q := by
  have hq := hq.out
  cases h : splitL 32 s with
  | nil => exact absurd h (splitL_ne 32 s)
  | cons x t => rw [h] at hq; simpa using hq
 rw [hqd] at hw
 subst hw
 have w1n : decide (q = q) = true := by simp
 clear hl ht hm hqd
 go_enter Tryz.func115, Tryz.ntmps115
 go_wp2_with (first | (go_at_call 114; refine HSP.out.mono ?_; rintro e w1 ⟨b, rfl, hx1, hst⟩; have z0 := strs_cell hst hq.out; have HST := Lib.hid hst; clear hst) | (go_at_call 116; refine (HSU.out _ _).mono ?_; rintro e w9 ⟨rfl, rfl⟩))
 have HX1 := Lib.hid hx1
 clear z0 hx1
 go_loopw [8, 31] (fun ov i wr => ∃ j : Nat, j ≤ M ∧ i = .int .i64 j ∧ wr.ownsRow w9.heap.size 3 1 ov j (((toldN s).take j).map (.int .i64)) ∧ Ext w9 wr ∧ Hid (∀ x, x ∈ ((splitL 32 s).drop 1).take j → numOk x = true)) (fun _ i _ => M - (intOf i).toNat)
 case atStart => exact ⟨0, Nat.zero_le _, rfl, World.ownsRow_nil _ _ _ _, Ext.refl _, fun x hx => by simp at hx⟩
 case round =>
  obtain ⟨j, hj, rfl, hown, hx, hal⟩ := hrel
  by_cases hlt : j < M
  ·obtain ⟨l, hl⟩ : ∃ l, (splitL 32 s)[1 + j]? = some l := ⟨_, List.getElem?_eq_getElem (by rw [HL.out]; omega)⟩
   have z1 := hx.cell (strs_cell HST.out hl)
   have x1 : decide ((j : Int) < (M : Int)) = true := by simpa using hlt
   have x2 : (j : Int) < (M : Int) := by omega
   have x3 : (0 : Int) ≤ (j : Int) := by omega
   have hdl : ((splitL 32 s).drop 1)[j]? = some l := by rw [List.getElem?_drop]; exact hl
   have HXR := Lib.hid hx
   cases hok : numOk l with
   | true =>
    have HOK := Lib.hid hok
    have HAX : Hid (∀ x, x ∈ ((splitL 32 s).drop 1).take (j + 1) → numOk x = true) := fun x hx => by
     rw [List.take_add_one, hdl, List.mem_append] at hx
     rcases hx with hx | hx
     ·exact hal.out x hx
     ·rw [show x = l by simpa using hx]; exact hok
    have hns : (toldN s)[j]? = some (valT l) := by unfold toldN; rw [List.getElem?_map, hdl]; rfl
    have HTK : Hid ((toldN s).take (j + 1) = (toldN s).take j ++ [valT l]) := by unfold Hid; rw [List.take_add_one, hns]; rfl
    have hs1 : j + 1 ≤ maxLen ∧ (j + 1) * 8 ≤ 140737488355328 := by unfold maxLen; omega
    have HS1 := Lib.hid hs1
    have HO := Lib.hid hown
    clear hown hs1 hns hok hx hdl hl
    go_wp2_with (first
     | (go_at_call 149; refine (HNY.out _ _ (HX1.out.trans HXR.out) HOK.out).mono ?_; rintro e w3 ⟨rfl, hx3⟩; have hy3 := HXR.out.trans hx3; have hz3 := hy3.size)
     | (at_builtin; refine wpList_push_at E_ints rfl _ _ rfl w9.heap.size rfl (owns_ext HO.out hx3) rfl rfl rfl (by simp [Value.oneCell']) ?_ HS1.out.1 HS1.out.2 hz3; intro g cap w4 hown4 hext4 hg4 hloc4; have hx4 := hext4 _ hy3 (Nat.le_refl _); have HO4 := Lib.hid hown4; clear hown4 hext4 hg4 hloc4))
    refine ⟨⟨j + 1, by omega, by go_num, by rw [HTK.out, List.map_append]; exact HO4.out, hx4, HAX.out⟩, by simp [intOf]; omega⟩
   | false =>
    have HOK := Lib.hid hok
    have HNO : Hid (¬ ∀ x, x ∈ (splitL 32 s).drop 1 → numOk x = true) := fun h => by have := h l (List.mem_of_getElem? hdl); rw [hok] at this; cases this
    clear hok hown hx hdl hl
    go_wp2_with (go_at_call 149; refine (HNN.out _ _ (HX1.out.trans HXR.out) HOK.out).mono ?_; rintro e w3 ⟨why, rfl, hx3⟩)
    exact ⟨rfl, .inr ⟨HNO.out, why, rfl, (HX1.out.trans HXR.out).trans hx3⟩⟩
  ·have hje : j = M := by omega
   have HF : Hid (wr.ownsRow w.heap.size 3 1 u8 (toldN s).length ((toldN s).map (.int .i64))) := by
    have htl := HTLD.out
    unfold Hid
    rw [htl, ← hje]
    have := owns_down hown HX1.out.size
    rwa [List.take_of_length_le (by omega)] at this
   have HAX : Hid (∀ x, x ∈ (splitL 32 s).drop 1 → numOk x = true) := fun x hx => hal.out x (by rw [List.take_of_length_le (by rw [List.length_drop, HL.out]; omega)]; exact hx)
   have HXR := Lib.hid hx
   have x1 : decide ((j : Int) < (M : Int)) = false := by simpa using hlt
   clear hje hown hx
   go_wp2
   go_ret
   exact .inl ⟨HAX.out, _, rfl, HX1.out.trans HXR.out, HF.out⟩
theorem told_ok (s word : List UInt8) (M : Nat) (w : World) (ht : TabOk w) (hm : MaxOk w) (hs : s.length ≤ 1000) (hM : 2 ≤ M ∧ M ≤ 3000) (h : toldOk word M s = true) : Calls Tryz.prog 115 #[strV s, strV word, .int .i64 M] w fun e w' => ∃ v1, e = .returned v1 ∧ Ext w w' ∧ w'.ownsRow w.heap.size 3 1 v1 (toldN s).length ((toldN s).map (.int .i64)) := by
 unfold toldOk at h
 simp only [Bool.and_eq_true, decide_eq_true_eq, List.all_eq_true] at h
 refine (told_go s word M w ht hm hs hM h.1.1 h.1.2).mono fun e w' hp => ?_
 rcases hp with ⟨_, hp⟩ | ⟨hn, _⟩
 ·exact hp
 ·exact absurd h.2 hn
theorem told_no (s word : List UInt8) (M : Nat) (w : World) (ht : TabOk w) (hm : MaxOk w) (hs : s.length ≤ 1000) (hM : 2 ≤ M ∧ M ≤ 3000) (h : toldOk word M s = false) : Calls Tryz.prog 115 #[strV s, strV word, .int .i64 M] w (StrangeP w) := by
 by_cases h1 : (splitL 32 s).length = M + 1
 ·by_cases h2 : (splitL 32 s).headD [] = word
  ·refine (told_go s word M w ht hm hs hM h1 h2).mono fun e w' hp => ?_
   rcases hp with ⟨h3, _⟩ | ⟨_, hp⟩
   ·unfold toldOk at h
    rw [decide_eq_true h1, decide_eq_true h2, List.all_eq_true.2 h3] at h
    cases h
   ·exact hp
  ·exact told_word s word M w hm hs hM h1 h2
 ·exact told_len s word M w hm hs hM h1
end Go.Proofs.YtdmdabhdcpjkiaaGreatDoor
