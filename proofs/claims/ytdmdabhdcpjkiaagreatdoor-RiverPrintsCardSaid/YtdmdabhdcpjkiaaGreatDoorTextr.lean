/- Reading: strings.Split, sure, number. -/
import Derived.Test.YtdmdabhdcpjkiaaGreatDoorTextp
import Derived.Test.YtdmdabhdcpjkiaaGreatDoorSplay
import Derived.Laws.RangeAny
namespace Go.Proofs.YtdmdabhdcpjkiaaGreatDoor
open Go.RowKit
def MaxOk (w : World) : Prop := ∃ m, w.cell? ⟨0, 0, none⟩ = some (.int .i64 m)
theorem MaxOk.ext {w w' : World} (h : MaxOk w) (k : Ext w w') : MaxOk w' := by obtain ⟨m, hm⟩ := h; exact ⟨m, k.cell hm⟩
theorem max_shaped {w : World} (h : w.ShapedOpen Tryz.prog) : MaxOk w := Tryz.splitS.s1_3 w h
theorem pieces_eq (l : List ByteArray) : l.map Value.string = (l.map (·.data.toList)).map strV := by
 rw [List.map_map]
 refine List.map_congr_left fun x _ => ?_
 show Value.string x = Value.string ⟨x.data.toList.toArray⟩
 rw [Array.toArray_toList]
theorem split_any (s : List UInt8) (c : UInt8) (w : World) (hm : MaxOk w) (hs : s.length ≤ 1000) :
  Calls Tryz.prog 114 #[strV s, .string ⟨#[c]⟩] w fun e w' => ∃ b, e = .returned (.slice (some ⟨b, 0, none⟩) (splitL c s).length (splitL c s).length) ∧ Ext w w' ∧ StrsAt w' (.slice (some ⟨b, 0, none⟩) (splitL c s).length (splitL c s).length) (splitL c s) := by
 obtain ⟨m, hm⟩ := hm
 have hcs := Any.strings_Split { Tryz.splitS with } Tryz.splitS.i9 ⟨s.toArray⟩ ⟨#[c]⟩ m w (by show s.toArray.size < _; simp; omega) hm (by show 1 ≤ (#[c] : Array UInt8).size; simp)
 have hk : Lib.countB ⟨s.toArray⟩ ⟨#[c]⟩ = Lib.count s [c] := rfl
 have hd := Lib.splitB_data ⟨#[c]⟩ 0 (Lib.countB ⟨s.toArray⟩ ⟨#[c]⟩) ⟨s.toArray⟩
 rw [hk] at hd
 have hd2 : (Lib.splitB ⟨#[c]⟩ 0 (Lib.count s [c]) ⟨s.toArray⟩).map (·.data.toList) = splitL c s := by
  rw [hd]
  have := splitL_eq c s
  simpa using this
 have hl : (splitL c s).length = Lib.count s [c] + 1 := by
  rw [← hd2, List.length_map]
  exact Lib.splitB_all ⟨#[c]⟩ (by show 1 ≤ (#[c] : Array UInt8).size; simp) 0 _ ⟨s.toArray⟩ hk
 have hb : Lib.count s [c] ≤ s.length + 1 := Lib.count_le s [c]
 refine hcs.mono fun e w' h => ?_
 obtain ⟨rfl, rfl⟩ := h
 rw [hk, ← hl, pieces_eq, hd2]
 refine ⟨w.heap.size, rfl, (Ext.refl w).alloc _, ?_⟩
 have := RowAt.new w ((splitL c s).map strV).toArray (Tryz.splitS_ren.t 9) (splitL c s).length (splitL c s).length (Nat.le_refl _) (by unfold maxLen; omega)
 simpa [StrsAt] using this
/-! ### Giving up -/
def strangeV (why : ByteArray) : Value := .iface 127 (.agg #[.string why])
def StrangeP (w : World) (e : Ending) (w' : World) : Prop := ∃ why, e = .panicked [{ v := strangeV why, recovered := false }] ∧ Ext w w'
theorem sure_yes (why : ByteArray) (w : World) : Calls Tryz.prog 116 #[.bool true, .string why] w fun e w' => e = .returned (.tuple #[]) ∧ w' = w := by
 go_enter Tryz.func116, Tryz.ntmps116
 go_wp2
 go_end0
 exact ⟨rfl, rfl⟩
theorem sure_no (why : ByteArray) (w : World) : Calls Tryz.prog 116 #[.bool false, .string why] w (StrangeP w) := by
 go_enter Tryz.func116, Tryz.ntmps116
 go_wp2
 exact ⟨rfl, why, rfl, Ext.refl _⟩
theorem size_str (s : List UInt8) : (⟨s.toArray⟩ : ByteArray).size = s.length := by show s.toArray.size = _; simp
theorem str_at {s : List UInt8} {pos : Nat} {b : UInt8} (hb : s[pos]? = some b) (h : pos < (⟨s.toArray⟩ : ByteArray).size) : (⟨s.toArray⟩ : ByteArray)[pos]'h = b := by
 obtain ⟨h1, rfl⟩ := List.getElem?_eq_some_iff.1 hb
 show s.toArray[pos] = s[pos]
 simp
theorem next_digit (s : List UInt8) (w : World) {pos : Nat} {b : UInt8} (hb : s[pos]? = some b) (ha : b.toNat < 128) : ∀ ty, (Instr.next (.pointer (some ⟨w.heap.size, 0, none⟩)) true ty).run Tryz.prog (w.iter ⟨s.toArray⟩ pos) = .ok (.tuple #[.bool true, .int .i64 pos, .int .i32 b.toNat]) (w.iter ⟨s.toArray⟩ (pos + 1)) := fun ty => by
 have hp : pos < (⟨s.toArray⟩ : ByteArray).size := by rw [size_str]; exact (List.getElem?_eq_some_iff.1 hb).1
 have h1 := str_at hb hp
 rw [run_next_ascii w ⟨s.toArray⟩ pos ty hp (by rw [h1]; exact ha), h1]
set_option maxRecDepth 100000 in
set_option maxHeartbeats 4000000 in
theorem number_yes (s : List UInt8) (w : World) (ht : TabOk w) (hn : numOk s = true) : Calls Tryz.prog 149 #[strV s] w fun e w' => e = .returned (.int .i64 (valT s)) ∧ Ext w w' := by
 obtain ⟨n1, n2, n3, n4, n5, n6⟩ := num_ok hn
 have HB := Lib.hid (val_bd n6)
 have HD := Lib.hid n6
 have HIT := Lib.hid (fun w1 (hx : Ext w w1) => itoa_any (valT s) (by omega) (by omega) w1 (ht.ext hx))
 rw [n3] at HIT
 have hsz := size_str s
 clear hn ht n3 n6
 go_enter Tryz.func149, Tryz.ntmps149
 go_wp2
 go_loopw [3] (fun n w' => ∃ pos : Nat, pos ≤ s.length ∧ w' = w.iter ⟨s.toArray⟩ pos ∧ n = .int .i64 (valT (s.take pos))) (fun _ w' => s.length - w'.iterPos w.heap.size)
 case atStart => exact ⟨0, Nat.zero_le _, rfl, rfl⟩
 case round =>
  obtain ⟨pos, hpos, rfl, rfl⟩ := hrel
  have hxi : Ext w (w.iter ⟨s.toArray⟩ pos) := (Ext.refl w).alloc _
  by_cases hp : pos < s.length
  ·obtain ⟨b, hb⟩ : ∃ b, s[pos]? = some b := ⟨_, List.getElem?_eq_getElem hp⟩
   have hdb : digB b = true := by have := HD.out; rw [List.all_eq_true] at this; exact this b (List.mem_of_getElem? hb)
   simp only [digB, Bool.and_eq_true, decide_eq_true_eq] at hdb
   obtain ⟨g1, g2⟩ := hdb
   have hnx := next_digit s w hb (by omega)
   have hbd := HB.out pos
   have HVS : Hid (valT (s.take (pos + 1)) = 10 * valT (s.take pos) + ((b.toNat : Int) - 48)) := by unfold Hid; rw [List.take_add_one, hb, Option.toList_some, valT_snoc]
   have hpl : (s.take pos).length ≤ 3 := by rw [List.length_take]; omega
   have hpw := pow10_le hpl
   obtain ⟨c0, c1⟩ := hbd
   have d1 : decide ((48 : Int) ≤ (b.toNat : Int)) = true := by simp; omega
   have d2 : decide ((b.toNat : Int) ≤ 57) = true := by simp; omega
   have d3 : decide ((s.length : Int) ≤ 3) = true := by simp; omega
   have d4 : decide (s.length ≤ 3) = true := by simp; omega
   have d5 : decide (48 ≤ b.toNat) = true := by simp; omega
   have d6 : decide (b.toNat ≤ 57) = true := by simp; omega
   generalize valT (s.take pos) = v at *
   have c2 : v ≤ 1000 := by omega
   have E1 : IntKind.i64.wrap (10 * v) = 10 * v := IntWalk.i64_in _ (by omega)
   have E2 : IntKind.i32.wrap ((b.toNat : Int) - 48) = (b.toNat : Int) - 48 := IntWalk.i32_in _ (by omega)
   have E4 : IntKind.i64.wrap ((b.toNat : Int) - 48) = (b.toNat : Int) - 48 := IntWalk.i64_in _ (by omega)
   have E3 : IntKind.i64.wrap (10 * v + ((b.toNat : Int) - 48)) = 10 * v + ((b.toNat : Int) - 48) := IntWalk.i64_in _ (by omega)
   clear c0 c1 hpw
   go_wp2_with (go_at_call 116; refine (sure_yes _ _).mono ?_; rintro e w' ⟨rfl, rfl⟩)
   go_roundw
   case rel => exact ⟨pos + 1, by omega, rfl, by rw [HVS.out]⟩
   case measure => simp; omega
  ·have hpe : pos = s.length := by omega
   have hnx : ∀ ty, (Instr.next (.pointer (some ⟨w.heap.size, 0, none⟩)) true ty).run Tryz.prog (w.iter ⟨s.toArray⟩ pos) = _ := fun ty => run_next_end w ⟨s.toArray⟩ pos ty (by rw [size_str]; exact hp)
   have HVE : Hid (valT (s.take pos) = valT s) := by unfold Hid; rw [List.take_of_length_le (by omega)]
   rw [HVE.out]
   have hse : s.isEmpty = false := by simpa using n4
   clear hpe n4
   go_wp2_with (first
    | (go_at_call 113; refine (HIT.out _ hxi).mono ?_; rintro e w1 ⟨rfl, hx1⟩)
    | (go_at_call 116; refine (sure_yes _ _).mono ?_; rintro e w' ⟨rfl, rfl⟩))
   go_ret
   exact ⟨rfl, hxi.trans hx1⟩
set_option maxRecDepth 100000 in
set_option maxHeartbeats 8000000 in
theorem number_no (s : List UInt8) (w : World) (ht : TabOk w) (hn : numOk s = false) : Calls Tryz.prog 149 #[strV s] w (StrangeP w) := by
 have HIT := Lib.hid (fun w1 (hx : Ext w w1) n (h0 : 0 ≤ n) (h1 : n ≤ 1000) => itoa_any n (by omega) (by omega) w1 (ht.ext hx))
 have hsz := size_str s
 have HN := Lib.hid hn
 clear ht hn
 go_enter Tryz.func149, Tryz.ntmps149
 go_wp2
 go_loopw [3] (fun n w' => ∃ pos : Nat, pos ≤ s.length ∧ w' = w.iter ⟨s.toArray⟩ pos ∧ n = .int .i64 (valT (s.take pos)) ∧ Hid ((s.take pos).all digB = true ∧ (pos = 0 ∨ s.length ≤ 3))) (fun _ w' => s.length - w'.iterPos w.heap.size)
 case atStart => exact ⟨0, Nat.zero_le _, rfl, rfl, by simp, .inl rfl⟩
 case round =>
  obtain ⟨pos, hpos, rfl, rfl, hall⟩ := hrel
  have hxi : Ext w (w.iter ⟨s.toArray⟩ pos) := (Ext.refl w).alloc _
  have HBD := Lib.hid (val_bd hall.out.1 pos)
  by_cases hp : pos < s.length
  ·obtain ⟨b, hb⟩ : ∃ b, s[pos]? = some b := ⟨_, List.getElem?_eq_getElem hp⟩
   by_cases hg : digB b = true ∧ s.length ≤ 3
   ·obtain ⟨hdb, n5⟩ := hg
    have HAL : Hid ((s.take (pos + 1)).all digB = true ∧ (pos + 1 = 0 ∨ s.length ≤ 3)) := ⟨by rw [List.take_add_one, hb, Option.toList_some, List.all_append, hall.out.1]; simp [hdb], .inr n5⟩
    simp only [digB, Bool.and_eq_true, decide_eq_true_eq] at hdb
    obtain ⟨g1, g2⟩ := hdb
    have hnx := next_digit s w hb (by omega)
    have hbd := HBD.out
    rw [List.take_take, Nat.min_self] at hbd
    have HVS : Hid (valT (s.take (pos + 1)) = 10 * valT (s.take pos) + ((b.toNat : Int) - 48)) := by unfold Hid; rw [List.take_add_one, hb, Option.toList_some, valT_snoc]
    have hpl : (s.take pos).length ≤ 3 := by rw [List.length_take]; omega
    have hpw := pow10_le hpl
    obtain ⟨c0, c1⟩ := hbd
    have d1 : decide ((48 : Int) ≤ (b.toNat : Int)) = true := by simp; omega
    have d2 : decide ((b.toNat : Int) ≤ 57) = true := by simp; omega
    have d3 : decide ((s.length : Int) ≤ 3) = true := by simp; omega
    have d4 : decide (s.length ≤ 3) = true := by simp; omega
    have d5 : decide (48 ≤ b.toNat) = true := by simp; omega
    have d6 : decide (b.toNat ≤ 57) = true := by simp; omega
    generalize valT (s.take pos) = v at *
    have c2 : v ≤ 1000 := by omega
    have E1 : IntKind.i64.wrap (10 * v) = 10 * v := IntWalk.i64_in _ (by omega)
    have E2 : IntKind.i32.wrap ((b.toNat : Int) - 48) = (b.toNat : Int) - 48 := IntWalk.i32_in _ (by omega)
    have E4 : IntKind.i64.wrap ((b.toNat : Int) - 48) = (b.toNat : Int) - 48 := IntWalk.i64_in _ (by omega)
    have E3 : IntKind.i64.wrap (10 * v + ((b.toNat : Int) - 48)) = 10 * v + ((b.toNat : Int) - 48) := IntWalk.i64_in _ (by omega)
    clear c0 c1 hpw
    go_wp2_with (go_at_call 116; refine (sure_yes _ _).mono ?_; rintro e w' ⟨rfl, rfl⟩)
    go_roundw
    case rel => exact ⟨pos + 1, by omega, rfl, by rw [HVS.out], HAL.out⟩
    case measure => simp; omega
   ·have hlt : pos < (⟨s.toArray⟩ : ByteArray).size := by rw [hsz]; exact hp
    have hat := str_at hb hlt
    obtain ⟨r, wd, hrw, hbad⟩ : ∃ r wd : Nat, Utf8.decode ⟨s.toArray⟩ pos = (r, wd) ∧ ¬ (48 ≤ r ∧ r ≤ 57 ∧ s.length ≤ 3) := by
     by_cases h8 : b.toNat < 128
     ·refine ⟨b.toNat, 1, by rw [decode_ascii _ pos hlt (by rw [hat]; exact h8), hat], fun h => hg ⟨?_, h.2.2⟩⟩
      simp only [digB, Bool.and_eq_true, decide_eq_true_eq]; omega
     ·have := (decode_high ⟨s.toArray⟩ pos hlt (by rw [hat]; omega)).1
      exact ⟨(Utf8.decode ⟨s.toArray⟩ pos).1, (Utf8.decode ⟨s.toArray⟩ pos).2, rfl, fun h => by omega⟩
    have hnx : ∀ ty, (Instr.next (.pointer (some ⟨w.heap.size, 0, none⟩)) true ty).run Tryz.prog (w.iter ⟨s.toArray⟩ pos) = .ok (.tuple #[.bool true, .int .i64 pos, .int .i32 r]) (w.iter ⟨s.toArray⟩ (pos + wd)) := fun ty => by
     rw [run_next_any w ⟨s.toArray⟩ pos ty hlt, hrw]
    have hxo : Ext w (w.iter ⟨s.toArray⟩ (pos + wd)) := (Ext.refl w).alloc _
    clear hg hat hrw hlt hb
    generalize valT (s.take pos) = v at *
    by_cases h1 : 48 ≤ r
    ·have d1 : decide ((48 : Int) ≤ (r : Int)) = true := by simp; omega
     have d1n : decide (48 ≤ r) = true := by simpa using h1
     by_cases h2 : r ≤ 57
     ·have d2 : decide ((r : Int) ≤ 57) = true := by simp; omega
      have d2n : decide (r ≤ 57) = true := by simpa using h2
      have d3 : decide ((s.length : Int) ≤ 3) = false := by simp; omega
      have d3n : decide (s.length ≤ 3) = false := by simp; omega
      clear h1 h2 hbad
      go_wp2_with (go_at_call 116; refine (sure_no _ _).mono ?_; rintro e w' ⟨why, rfl, hx⟩)
      exact ⟨rfl, why, rfl, hxo.trans hx⟩
     ·have d2 : decide ((r : Int) ≤ 57) = false := by simp; omega
      have d2n : decide (r ≤ 57) = false := by simpa using h2
      clear h1 h2 hbad
      go_wp2_with (go_at_call 116; refine (sure_no _ _).mono ?_; rintro e w' ⟨why, rfl, hx⟩)
      exact ⟨rfl, why, rfl, hxo.trans hx⟩
    ·have d1 : decide ((48 : Int) ≤ (r : Int)) = false := by simp; omega
     have d1n : decide (48 ≤ r) = false := by simpa using h1
     clear h1 hbad
     go_wp2_with (go_at_call 116; refine (sure_no _ _).mono ?_; rintro e w' ⟨why, rfl, hx⟩)
     exact ⟨rfl, why, rfl, hxo.trans hx⟩
  ·have hpe : pos = s.length := by omega
   have hnx : ∀ ty, (Instr.next (.pointer (some ⟨w.heap.size, 0, none⟩)) true ty).run Tryz.prog (w.iter ⟨s.toArray⟩ pos) = _ := fun ty => run_next_end w ⟨s.toArray⟩ pos ty (by rw [size_str]; exact hp)
   have hts : s.take pos = s := List.take_of_length_le (by omega)
   have hd := hall.out.1
   rw [hts] at hd ⊢
   by_cases he : s = []
   ·have hse : s.isEmpty = true := by rw [he]; rfl
    clear hpe hts hd he hall HBD HN hsz
    go_wp2_with (go_at_call 116; refine (sure_no _ _).mono ?_; rintro e w' ⟨why, rfl, hx⟩)
    exact ⟨rfl, why, rfl, hxi.trans hx⟩
   ·have hse : s.isEmpty = false := by simpa using he
    have h6 : s.length ≤ 3 := by
     rcases hall.out.2 with h | h
     ·exfalso; exact he (List.length_eq_zero_iff.1 (by omega))
     ·exact h
    have hbd := val_bd hd s.length
    rw [List.take_of_length_le (Nat.le_refl _)] at hbd
    have hpw := pow10_le h6
    have hne : ¬ Lib.itoa (valT s) = s := fun e => by
     have := HN.out
     unfold numOk at this
     rw [hd, decide_eq_true e, decide_eq_true he, decide_eq_true h6] at this
     cases this
    have HQ := Lib.hid (fun w1 (hx : Ext w w1) => HIT.out w1 hx (valT s) hbd.1 (by omega))
    have q1 : decide (Lib.itoa (valT s) = s) = false := by simpa using hne
    have q2 : (Lib.itoa (valT s) == s) = false := by simpa using hne
    clear hpe hts hd he h6 hbd hpw hall HBD
    generalize Lib.itoa (valT s) = q at *
    go_wp2_with (first
     | (go_at_call 113; refine (HQ.out _ hxi).mono ?_; rintro e w1 ⟨rfl, hx1⟩)
     | (go_at_call 116; refine (sure_no _ _).mono ?_; rintro e w' ⟨why, rfl, hx⟩))
    exact ⟨rfl, why, rfl, (hxi.trans hx1).trans hx⟩
end Go.Proofs.YtdmdabhdcpjkiaaGreatDoor
