/- The law CardReads: its ways, joined. -/
import Derived.Test.YtbeophjdiddomaaGreatDoorReadb
import Derived.Test.YtbeophjdiddomaaGreatDoorRead
import Derived.Test.YtbeophjdiddomaaGreatDoorSamez
import Derived.Test.YtbeophjdiddomaaGreatDoorRsame
import Derived.Test.YtbeophjdiddomaaGreatDoorRreadb
import Derived.Test.YtbeophjdiddomaaGreatDoorOpened
namespace Go.Proofs.YtbeophjdiddomaaGreatDoor
open Go.RowKit

/-- A box of eight cells. -/
abbrev boxQ (q : Round) (qa : Option Addr) (qn qc : Nat) : Obj := .cells #[.int .i64 q.per, .int .i64 q.lo, .int .i64 q.hi, .int .i64 q.card, .int .i64 q.slack, .slice qa qn qc, .int .i64 q.all, .int .i64 q.off] 26
/-- Some round, and whether it is one. -/
def SomeR (w : World) (t : Option Bool) (e : Ending) (w' : World) : Prop := ∃ (q : Round) (qa : Option Addr) (qn qc : Nat) (b : Bool), e = .returned (.tuple #[.agg #[.int .i64 q.per, .int .i64 q.lo, .int .i64 q.hi, .int .i64 q.card, .int .i64 q.slack, .slice qa qn qc, .int .i64 q.all, .int .i64 q.off], .bool b]) ∧ Ext w w' ∧ ∀ x, t = some x → b = x
theorem round_agg {w : World} {v : Value} {r : Round} (h : RoundAt w v r) : ∃ a c, v = .agg #[.int .i64 r.per, .int .i64 r.lo, .int .i64 r.hi, .int .i64 r.card, .int .i64 r.slack, .slice a r.houses.length c, .int .i64 r.all, .int .i64 r.off] ∧ HousesAt w (.slice a r.houses.length c) r.houses := by
  obtain ⟨hv, rfl, hh⟩ := h
  obtain ⟨a, c, rfl, _⟩ := hh.open
  exact ⟨a, c, rfl, hh⟩
theorem rread_some (s : List UInt8) (w : World) (hs : s.length ≤ 500) : Calls Tryz.prog 22 #[strV s] w (SomeR w none) := by
  refine (rread_any s w hs).mono fun e w' h => ?_
  obtain ⟨v, t, rfl, hx, h1, h2⟩ := h
  cases hq : rread s with
  | none =>
    obtain ⟨-, rfl⟩ := h1 hq
    exact ⟨⟨0, 0, 0, 0, 0, [], 0, 0⟩, _, _, _, _, rfl, hx, fun x h => by cases h⟩
  | some r =>
    obtain ⟨a, c, rfl, -⟩ := round_agg (h2 r hq).2
    exact ⟨r, _, _, _, _, rfl, hx, fun x h => by cases h⟩
theorem rread_false (s : List UInt8) (w : World) (hs : s.length ≤ 500) (hno : ¬ ∃ r, TextOf s r) : Calls Tryz.prog 22 #[strV s] w (SomeR w (some false)) := by
  refine (rread_any s w hs).mono fun e w' h => ?_
  obtain ⟨v, t, rfl, hx, h1, h2⟩ := h
  cases hq : rread s with
  | none =>
    obtain ⟨rfl, rfl⟩ := h1 hq
    exact ⟨⟨0, 0, 0, 0, 0, [], 0, 0⟩, _, _, _, _, rfl, hx, fun x h => by cases h; rfl⟩
  | some r =>
    obtain ⟨a, c, rfl, -⟩ := round_agg (h2 r hq).2
    have ht := (h2 r hq).1
    refine ⟨r, _, _, _, _, rfl, hx, fun x h => ?_⟩
    cases h
    rw [ht, decide_eq_false_iff_not]
    exact fun e => hno ⟨r, (rread_iff hs hq).2 e⟩
theorem read_zero (s : List UInt8) (w : World) (ht : TabOk w) (hm : MaxOk w) (hs : s.length ≤ 500) (err : Int) (h : (400 < s.length ∧ err = 3) ∨ (s.length ≤ 400 ∧ (¬ ∃ r, TextOf s r) ∧ err = 4) ∨ (s.length ≤ 400 ∧ (∃ r, TextOf s r ∧ isRoundB r = false) ∧ err = 2)) : Calls Tryz.prog 19 #[strV s] w fun e w' => e = .returned (.tuple #[zR, .int .i64 err]) ∧ Ext w w' := by
  refine (read_res s w hs (fun w2 h2 => read_any s w2 (ht.ext h2) (hm.ext h2) hs)).mono fun e w' hr => ?_
  obtain ⟨v, er, rfl, hx, h1, h2, h3⟩ := hr
  rcases h with ⟨k1, rfl⟩ | ⟨k1, k2, rfl⟩ | ⟨k1, ⟨r, k2, k3⟩, rfl⟩
  · obtain ⟨rfl, rfl⟩ := h1 k1; exact ⟨rfl, hx⟩
  · obtain ⟨rfl, rfl⟩ := h2 k1 k2; exact ⟨rfl, hx⟩
  · obtain ⟨rfl, rfl⟩ := (h3 k1 r k2).2 k3; exact ⟨rfl, hx⟩
theorem zero_cells {W : World} {b : Nat} {t : TypeId} (h : W.heap[b]? = some (.cells #[.int .i64 0, .int .i64 0, .int .i64 0, .int .i64 0, .int .i64 0, .slice none 0 0, .int .i64 0, .int .i64 0] t (0, 0))) :
    W.cell? ⟨b, 0, none⟩ = some (.int .i64 0) ∧ W.cell? ⟨b, 1, none⟩ = some (.int .i64 0) ∧ W.cell? ⟨b, 2, none⟩ = some (.int .i64 0) ∧ W.cell? ⟨b, 3, none⟩ = some (.int .i64 0) ∧ W.cell? ⟨b, 4, none⟩ = some (.int .i64 0) ∧ W.cell? ⟨b, 5, none⟩ = some (.slice none 0 0) ∧ W.cell? ⟨b, 6, none⟩ = some (.int .i64 0) ∧ W.cell? ⟨b, 7, none⟩ = some (.int .i64 0) := by simp [World.cell?, h]
abbrev boxZ : Obj := .cells #[.int .i64 0, .int .i64 0, .int .i64 0, .int .i64 0, .int .i64 0, .slice none 0 0, .int .i64 0, .int .i64 0] 26
set_option maxRecDepth 100000 in
set_option maxHeartbeats 16000000 in
theorem readsL_e0 (s : List UInt8) (w : World) (ht : TabOk w) (hs : 500 < s.length) (hs2 : s.length ≤ 9223372036854775807) : Calls Tryz.prog 5 #[strV s] w (TrueP w) := by
  have HL := Lib.hid (fun w1 (hx : Ext w w1) => lknown_any w1 (ht.ext hx))
  have t1 : decide ((500 : Int) < (s.length : Int)) = true := by simp; omega
  have t2 : decide (500 < s.length) = true := by simpa using hs
  have hsz := size_str s
  clear ht
  go_enter Tryz.func5, Tryz.ntmps5
  go_wp2_with (go_at_call 9; refine (HL.out _ (Ext.refl _)).mono ?_; rintro e wk ⟨rfl, hxk⟩)
  go_ret
  exact ⟨rfl, hxk⟩
set_option maxRecDepth 100000 in
set_option maxHeartbeats 16000000 in
theorem readsL_eA (s : List UInt8) (w : World) (ht : TabOk w) (hm : MaxOk w) (hs : s.length ≤ 500) (hs4 : 400 < s.length) : Calls Tryz.prog 5 #[strV s] w (TrueP w) := by
  have HL := Lib.hid (fun w1 (hx : Ext w w1) => lknown_any w1 (ht.ext hx))
  have HR := Lib.hid (read_zero s w ht hm hs 3 (.inl ⟨hs4, rfl⟩))
  have HRR := Lib.hid (fun w1 => rread_some s w1 hs)
  have t1 : decide ((500 : Int) < (s.length : Int)) = false := by simp; omega
  have t2 : decide (500 < s.length) = false := by simp; omega
  have t3 : decide ((400 : Int) < (s.length : Int)) = true := by simp; omega
  have t4 : decide (400 < s.length) = true := by simp; omega
  have hsz := size_str s
  have hmix : Tryz.prog.follows .mixedOrders = true := by kernel_rfl
  clear ht hm hs hs4
  go_enter Tryz.func5, Tryz.ntmps5
  go_wp2_with (first
    | (go_at_call 19; refine HR.out.mono ?_; rintro e w1 ⟨rfl, hx1⟩; have HB := Lib.hid (fun W (h : Ext (w1.alloc boxZ) W) => zero_cells ((h.block (by simp)).trans (World.alloc_heap_new w1 boxZ))))
    | (go_at_call 22; refine (HRR.out _).mono ?_; rintro e w2 ⟨q, qa, qn, qc, b, rfl, hx2, -⟩; have hy2 := hx2.trans ((Ext.refl w2).alloc (boxQ q qa qn qc)); obtain ⟨z0, z1, z2, z3, z4, z5, z6, z7⟩ := HB.out _ hy2)
    | (go_at_call 21; refine (sameZero_any _).mono ?_; rintro e w3 ⟨rfl, hx3⟩; have hy3 := (hx1.trans (((Ext.refl w1).alloc boxZ).trans hy2)).trans hx3)
    | (go_at_call 9; refine (HL.out _ hy3).mono ?_; rintro e wk ⟨rfl, hxk⟩))
  go_ret
  exact ⟨rfl, hy3.trans hxk⟩
set_option maxRecDepth 100000 in
set_option maxHeartbeats 16000000 in
theorem readsL_eB (s : List UInt8) (w : World) (ht : TabOk w) (hm : MaxOk w) (hs4 : s.length ≤ 400) (hno : ¬ ∃ r, TextOf s r) : Calls Tryz.prog 5 #[strV s] w (TrueP w) := by
  have HL := Lib.hid (fun w1 (hx : Ext w w1) => lknown_any w1 (ht.ext hx))
  have HR := Lib.hid (read_zero s w ht hm (by omega) 4 (.inr (.inl ⟨hs4, hno, rfl⟩)))
  have HRR := Lib.hid (fun w1 => rread_false s w1 (by omega) hno)
  have t1 : decide ((500 : Int) < (s.length : Int)) = false := by simp; omega
  have t2 : decide (500 < s.length) = false := by simp; omega
  have t3 : decide ((400 : Int) < (s.length : Int)) = false := by simp; omega
  have t4 : decide (400 < s.length) = false := by simp; omega
  have hsz := size_str s
  have hmix : Tryz.prog.follows .mixedOrders = true := by kernel_rfl
  clear ht hm hs4 hno
  go_enter Tryz.func5, Tryz.ntmps5
  go_wp2_with (first
    | (go_at_call 19; refine HR.out.mono ?_; rintro e w1 ⟨rfl, hx1⟩; have HB := Lib.hid (fun W (h : Ext (w1.alloc boxZ) W) => zero_cells ((h.block (by simp)).trans (World.alloc_heap_new w1 boxZ))))
    | (go_at_call 22; refine (HRR.out _).mono ?_; rintro e w2 ⟨q, qa, qn, qc, b, rfl, hx2, hb9⟩; have hb8 := hb9 _ rfl; subst hb8; clear hb9; have hy2 := hx2.trans ((Ext.refl w2).alloc (boxQ q qa qn qc)); obtain ⟨z0, z1, z2, z3, z4, z5, z6, z7⟩ := HB.out _ hy2)
    | (go_at_call 21; refine (sameZero_any _).mono ?_; rintro e w3 ⟨rfl, hx3⟩; have hy3 := (hx1.trans (((Ext.refl w1).alloc boxZ).trans hy2)).trans hx3)
    | (go_at_call 9; refine (HL.out _ hy3).mono ?_; rintro e wk ⟨rfl, hxk⟩))
  go_ret
  exact ⟨rfl, hy3.trans hxk⟩
/-- What the reference reads of a text. -/
theorem rread_true (s : List UInt8) (r : Round) (w : World) (hs : s.length ≤ 500) (hr : TextOf s r) : Calls Tryz.prog 22 #[strV s] w fun e w' => ∃ a c, e = .returned (.tuple #[.agg #[.int .i64 r.per, .int .i64 r.lo, .int .i64 r.hi, .int .i64 r.card, .int .i64 r.slack, .slice a r.houses.length c, .int .i64 r.all, .int .i64 r.off], .bool true]) ∧ Ext w w' ∧ HousesAt w' (.slice a r.houses.length c) r.houses := by
  refine (rread_any s w hs).mono fun e w' h => ?_
  obtain ⟨v, t, rfl, hx, -, h2⟩ := h
  obtain ⟨ht, hv⟩ := h2 r (rfold_text hr)
  obtain ⟨a, c, rfl, hh⟩ := round_agg hv
  have : t = true := by rw [ht, decide_eq_true_eq]; exact hr.2
  subst this
  exact ⟨a, c, rfl, hx, hh⟩
set_option maxRecDepth 100000 in
set_option maxHeartbeats 16000000 in
theorem readsL_eC (s : List UInt8) (r : Round) (w : World) (ht : TabOk w) (hm : MaxOk w) (hs4 : s.length ≤ 400) (hr : TextOf s r) (hb : isRoundB r = false) : Calls Tryz.prog 5 #[strV s] w (TrueP w) := by
  have HL := Lib.hid (fun w1 (hx : Ext w w1) => lknown_any w1 (ht.ext hx))
  have HR := Lib.hid (read_zero s w ht hm (by omega) 2 (.inr (.inr ⟨hs4, ⟨r, hr, hb⟩, rfl⟩)))
  have HRR := Lib.hid (fun w1 => rread_true s r w1 (by omega) hr)
  have HQ := Lib.hid (fun v w1 (h : RoundAt w1 v r) => rround_any v r w1 h)
  rw [hb] at HQ
  have t1 : decide ((500 : Int) < (s.length : Int)) = false := by simp; omega
  have t2 : decide (500 < s.length) = false := by simp; omega
  have t3 : decide ((400 : Int) < (s.length : Int)) = false := by simp; omega
  have t4 : decide (400 < s.length) = false := by simp; omega
  have hsz := size_str s
  have hmix : Tryz.prog.follows .mixedOrders = true := by kernel_rfl
  clear ht hm hs4 hr hb
  go_enter Tryz.func5, Tryz.ntmps5
  go_wp2_with (first
    | (go_at_call 19; refine HR.out.mono ?_; rintro e w1 ⟨rfl, hx1⟩; have HB := Lib.hid (fun W (h : Ext (w1.alloc boxZ) W) => zero_cells ((h.block (by simp)).trans (World.alloc_heap_new w1 boxZ))))
    | (go_at_call 22; refine (HRR.out _).mono ?_; rintro e w2 ⟨a, c, rfl, hx2, hh2⟩; have hy2 := hx2.trans ((Ext.refl w2).alloc (boxD r a c)); have HH2 := Lib.hid (hh2.ext ((Ext.refl w2).alloc (boxD r a c))); clear hh2)
    | (go_at_call 8; refine (HQ.out _ _ ⟨_, rfl, HH2.out⟩).mono ?_; rintro e w4 ⟨rfl, hx4⟩; have hy4 := hy2.trans hx4; obtain ⟨z0, z1, z2, z3, z4, z5, z6, z7⟩ := HB.out _ hy4)
    | (go_at_call 21; refine (sameZero_any _).mono ?_; rintro e w3 ⟨rfl, hx3⟩; have hy3 := (hx1.trans (((Ext.refl w1).alloc boxZ).trans hy4)).trans hx3)
    | (go_at_call 9; refine (HL.out _ hy3).mono ?_; rintro e wk ⟨rfl, hxk⟩))
  go_ret
  exact ⟨rfl, hy3.trans hxk⟩
set_option maxRecDepth 100000 in
set_option maxHeartbeats 16000000 in
theorem readsL_eD (s : List UInt8) (r : Round) (w : World) (ht : TabOk w) (hm : MaxOk w) (hs4 : s.length ≤ 400) (hr : TextOf s r) (hb : isRoundB r = true) : Calls Tryz.prog 5 #[strV s] w (TrueP w) := by
  have HL := Lib.hid (fun w1 (hx : Ext w w1) => lknown_any w1 (ht.ext hx))
  have HR := Lib.hid ((read_res s w (by omega) (fun w2 h2 => read_any s w2 (ht.ext h2) (hm.ext h2) (by omega))).mono (R' := fun e w' => ∃ a c, e = .returned (.tuple #[.agg #[.int .i64 r.per, .int .i64 r.lo, .int .i64 r.hi, .int .i64 r.card, .int .i64 r.slack, .slice a r.houses.length c, .int .i64 r.all, .int .i64 r.off], .int .i64 0]) ∧ Ext w w' ∧ HousesAt w' (.slice a r.houses.length c) r.houses) (fun e w' h => by
    obtain ⟨v, er, rfl, hx, -, -, h3⟩ := h
    obtain ⟨rfl, hv⟩ := (h3 hs4 r hr).1 hb
    obtain ⟨a, c, rfl, hh⟩ := round_agg hv
    exact ⟨a, c, rfl, hx, hh⟩))
  have HRR := Lib.hid (fun w1 => rread_true s r w1 (by omega) hr)
  have HQ := Lib.hid (fun v w1 (h : RoundAt w1 v r) => rround_any v r w1 h)
  rw [hb] at HQ
  have HPR := Lib.hid (fun v w1 (hx : Ext w w1) (h : RoundAt w1 v r) => (print_any v r w1 h (ht.ext hx)).mono (R' := fun e w' => e = .returned (.tuple #[strV s, .int .i64 0]) ∧ Ext w1 w') (fun e w' h => by
    have h1 := h.1
    rw [if_pos hb, if_pos hb, hr.2] at h1
    exact ⟨h1, h.2⟩))
  have HSA := Lib.hid (fun va vb w1 (h1 : RoundAt w1 va r) (h2 : RoundAt w1 vb r) => rsame_any va vb r w1 h1 h2)
  have t1 : decide ((500 : Int) < (s.length : Int)) = false := by simp; omega
  have t2 : decide (500 < s.length) = false := by simp; omega
  have t3 : decide ((400 : Int) < (s.length : Int)) = false := by simp; omega
  have t4 : decide (400 < s.length) = false := by simp; omega
  have hsz := size_str s
  have hmix : Tryz.prog.follows .mixedOrders = true := by kernel_rfl
  clear ht hm hs4 hr hb
  go_enter Tryz.func5, Tryz.ntmps5
  go_wp2_with (first
    | (go_at_call 19; refine HR.out.mono ?_; rintro e w1 ⟨a, c, rfl, hx1, hh1⟩; have HB := Lib.hid (fun W (h : Ext (w1.alloc (boxD r a c)) W) => round_cells ((h.block (by simp)).trans (World.alloc_heap_new w1 (boxD r a c)))); have HH1 := Lib.hid (hh1.ext ((Ext.refl w1).alloc (boxD r a c))); clear hh1)
    | (go_at_call 22; refine (HRR.out _).mono ?_; rintro e w2 ⟨a2, c2, rfl, hx2, hh2⟩; have hy2 := hx2.trans ((Ext.refl w2).alloc (boxD r a2 c2)); have HH2 := Lib.hid (hh2.ext ((Ext.refl w2).alloc (boxD r a2 c2))); clear hh2; have HB2 := Lib.hid (fun W (h : Ext (w2.alloc (boxD r a2 c2)) W) => round_cells ((h.block (by simp)).trans (World.alloc_heap_new w2 (boxD r a2 c2)))))
    | (go_at_call 8; refine (HQ.out _ _ ⟨_, rfl, HH2.out⟩).mono ?_; rintro e w4 ⟨rfl, hx4⟩; have hy4 := hy2.trans hx4; obtain ⟨z0, z1, z2, z3, z4, z5, z6, z7⟩ := HB.out _ hy4; obtain ⟨k0, k1, k2, k3, k4, k5, k6, k7⟩ := HB2.out _ hx4; have hw4 := hx1.trans (((Ext.refl w1).alloc (boxD r a c)).trans hy4))
    | (go_at_call 18; refine (HPR.out _ _ hw4 ⟨_, rfl, HH1.out.ext hy4⟩).mono ?_; rintro e w5 ⟨rfl, hx5⟩; have hy5 := hy4.trans hx5; clear z0 z1 z2 z3 z4 z5 z6 z7 k0 k1 k2 k3 k4 k5 k6 k7; obtain ⟨z0, z1, z2, z3, z4, z5, z6, z7⟩ := HB.out _ hy5; obtain ⟨k0, k1, k2, k3, k4, k5, k6, k7⟩ := HB2.out _ (hx4.trans hx5))
    | (go_at_call 21; refine (HSA.out _ _ _ ⟨_, rfl, HH1.out.ext hy5⟩ ⟨_, rfl, HH2.out.ext (hx4.trans hx5)⟩).mono ?_; rintro e w3 ⟨rfl, hx3⟩; have hy3 := (hw4.trans hx5).trans hx3)
    | (go_at_call 9; refine (HL.out _ hy3).mono ?_; rintro e wk ⟨rfl, hxk⟩))
  go_ret
  exact ⟨rfl, hy3.trans hxk⟩
theorem cardReads_list (s : List UInt8) (w : World) (ht : TabOk w) (hm : MaxOk w) (hl : s.length ≤ 9223372036854775807) : Calls Tryz.prog 5 #[strV s] w (TrueP w) := by
  by_cases h5 : 500 < s.length
  · exact readsL_e0 s w ht h5 hl
  by_cases h4 : 400 < s.length
  · exact readsL_eA s w ht hm (by omega) h4
  by_cases hr : ∃ r, TextOf s r
  · obtain ⟨r, hr⟩ := hr
    cases hb : isRoundB r with
    | false => exact readsL_eC s r w ht hm (by omega) hr hb
    | true => exact readsL_eD s r w ht hm (by omega) hr hb
  · exact readsL_eB s w ht hm (by omega) hr
theorem cardReads_any (x : ByteArray) (w : World) (hl : x.size ≤ maxLen) (ht : TabOk w) (hm : MaxOk w) : Calls Tryz.prog 5 #[.string x] w (TrueP w) := by
  have h := cardReads_list x.data.toList w ht hm (by unfold maxLen at hl; have : x.data.toList.length = x.size := by show x.data.toList.length = x.data.size; simp
                                                     omega)
  have e : strV x.data.toList = .string x := by show Value.string ⟨x.data.toList.toArray⟩ = _; rw [Array.toArray_toList]
  rwa [e] at h
end Go.Proofs.YtbeophjdiddomaaGreatDoor
