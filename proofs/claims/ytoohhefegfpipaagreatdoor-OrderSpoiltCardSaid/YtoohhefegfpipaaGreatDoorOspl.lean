/- The law OrderSpoilt. -/
import Derived.Test.YtoohhefegfpipaaGreatDoorOkn
import Derived.Test.YtoohhefegfpipaaGreatDoorOpt
import Derived.Test.YtoohhefegfpipaaGreatDoorOsp
import Derived.Test.YtoohhefegfpipaaGreatDoorRbk
import Derived.Test.YtoohhefegfpipaaGreatDoorOsab
import Derived.Laws.IdiomStrings
namespace Go.Proofs.YtoohhefegfpipaaGreatDoor
open Go.RowKit
abbrev TrueP (w : World) (e : Ending) (w' : World) : Prop := e = .returned (.bool true) ∧ Ext w w'
theorem zero_bk (W : World) : BookAt W zeroBk zeroB := ⟨_, _, rfl, IntsAt.of_owns (base := 0) (e := 3) (v := .slice none 0 0) (xs := []) (World.ownsRow_nil _ _ _ _), RowOf.nil _ _⟩
theorem str_index {s : List UInt8} {k : Nat} {b : UInt8} (h : s[k]? = some b) : ∃ hk : k < s.length, s[k]'hk = b := by
 obtain ⟨h1, h2⟩ := List.getElem?_eq_some_iff.1 h; exact ⟨h1, h2⟩
/-- The row that '[]byte(s)' lays. -/
abbrev rowO (bs : ByteArray) (g : Nat) : Obj := .cells (bytesRow bs g) 5 ((bytesRow bs g).size, (bytesRow bs g).size + 1)
theorem rowO_cells {s : List UInt8} {bs : ByteArray} (h : bs = ⟨s.toArray⟩) (w : World) (g : Nat) (k : Nat) (hk : k < s.length) : ((w.alloc (rowO bs g)).drew).cell? ⟨w.heap.size, k, none⟩ = some (.int .u8 ((s[k]'hk).toNat : Int)) := by
 subst h
 show (w.alloc (rowO ⟨s.toArray⟩ g)).cell? _ = _
 rw [World.cell?_alloc_mark, bytesRow_at _ _ k (by simpa using hk)]
 rfl
theorem row_frozen {bs : ByteArray} {pn : Nat} (h : pn < bs.size) (w : World) (g : Nat) : ((w.alloc (rowO bs g)).drew).frozen? ⟨w.heap.size, pn, none⟩ = false := by
 show (w.alloc (rowO bs g)).frozen? _ = _
 rw [World.frozen?_alloc_mark]
 have h2 : pn < (bytesRow bs g).size := by
  unfold bytesRow; rw [Array.size_append, Array.size_map]; have h3 : bs.data.size = bs.size := rfl; omega
 simp only [Bool.and_eq_false_iff, decide_eq_false_iff_not]
 exact .inl (by omega)
theorem row_back {s : List UInt8} {bs : ByteArray} (h : bs = ⟨s.toArray⟩) {W : World} {wb pn : Nat} {x : UInt8} {d : Int} (hc : ∀ k (hk : k < s.length), W.cell? ⟨wb, k, none⟩ = some (.int .u8 ((s[k]'hk).toNat : Int))) (hp : pn < s.length) (hx : (x.toNat : Int) = 48 + d) (g : Nat) :
  (convert 85 9 (.slice (some ⟨wb, 0, none⟩) bs.size g)).run Tryz.prog (W.setCell ⟨wb, pn, none⟩ (.int .u8 (48 + d))) = .ok (strV (s.set pn x)) (W.setCell ⟨wb, pn, none⟩ (.int .u8 (48 + d))) := by
 have hl : bs.size = (s.set pn x).length := by subst h; rw [List.length_set]; exact List.size_toArray ..
 rw [hl]
 refine run_convert_bytes_back (P := Tryz.prog) _ 85 9 5 ⟨wb, 0, none⟩ g (s.set pn x) (by kernel_rfl) (by kernel_rfl) Tryz.underlying9 (fun j hj => ?_)
 rw [List.length_set] at hj
 rw [show (⟨wb, 0, none⟩ : Addr).add j = ⟨wb, j, none⟩ by unfold Addr.add; split <;> simp_all, List.getElem_set]
 by_cases e : pn = j
 ·subst e
  rw [if_pos rfl, World.cell?_setCell_same _ _ _ (hc pn hp), hx]
 ·rw [if_neg e, World.cell?_setCell_other _ _ _ _ (by intro h9; injection h9 with h9 h10; exact e h10)]
  exact hc j hj
set_option maxRecDepth 100000 in
set_option maxHeartbeats 16000000 in
theorem spoiltL_e0 (v : Value) (r : Book) (p d : Int) (w : World) (hr : BookAt w v r) (ht : TabOk w) (hm : MaxOk w) (hs : shortB r = false) : Calls Tryz.prog 9 #[v, .int .i64 p, .int .i64 d] w (TrueP w) := by
 have hr' := hr
 obtain ⟨ga, gk, ea, ec, rfl, _, _⟩ := hr.open
 have HX0 := Lib.hid ((Ext.refl w).alloc (bookBox (.slice ga r.goods.length gk) r (.slice ea r.entries.length ec)))
 have HSL := Lib.hid (fun w1 (hx : Ext w w1) => short_any _ r w1 (hr'.ext hx))
 have HRR := Lib.hid (fun w1 (hx : Ext w w1) => rbook_any _ r w1 (hr'.ext hx))
 have HL := Lib.hid (fun w1 (hx : Ext w w1) => lknown_any w1 (ht.ext hx) (hm.ext hx))
 have HB := Lib.hid (fun W (h : Ext (w.alloc (bookBox (.slice ga r.goods.length gk) r (.slice ea r.entries.length ec))) W) => BoxAt.ext (BoxAt.new w (.slice ga r.goods.length gk) r (.slice ea r.entries.length ec)) h)
 rw [hs] at HSL
 have hmix : Tryz.prog.follows .mixedOrders = true := by kernel_rfl
 clear hr hr' ht hm hs HRR
 go_enter Tryz.func9, Tryz.ntmps9
 obtain ⟨z0, z1, z2, z3⟩ := HB.out _ (Ext.refl _)
 go_wp2_with (first
  | (go_at_call 10; refine (HSL.out _ HX0.out).mono ?_; rintro e w1 ⟨rfl, hx1⟩; have hy1 := Ext.trans (Ext.refl (w.alloc (bookBox (.slice ga r.goods.length gk) r (.slice ea r.entries.length ec)))) hx1; clear z0 z1 z2 z3; obtain ⟨z0, z1, z2, z3⟩ := HB.out _ hy1)
  | (go_at_call 11; refine (HL.out _ (HX0.out.trans hy1)).mono ?_; rintro e wk ⟨rfl, hxk⟩))
 go_ret
 exact ⟨rfl, (HX0.out.trans hy1).trans hxk⟩
set_option maxRecDepth 100000 in
set_option maxHeartbeats 16000000 in
theorem spoiltL_e1 (v : Value) (r : Book) (p d : Int) (w : World) (hr : BookAt w v r) (ht : TabOk w) (hm : MaxOk w) (hs : shortB r = true) (hb : isBookB r = false) : Calls Tryz.prog 9 #[v, .int .i64 p, .int .i64 d] w (TrueP w) := by
 have hr' := hr
 obtain ⟨ga, gk, ea, ec, rfl, _, _⟩ := hr.open
 have HX0 := Lib.hid ((Ext.refl w).alloc (bookBox (.slice ga r.goods.length gk) r (.slice ea r.entries.length ec)))
 have HSL := Lib.hid (fun w1 (hx : Ext w w1) => short_any _ r w1 (hr'.ext hx))
 have HRR := Lib.hid (fun w1 (hx : Ext w w1) => rbook_any _ r w1 (hr'.ext hx))
 have HL := Lib.hid (fun w1 (hx : Ext w w1) => lknown_any w1 (ht.ext hx) (hm.ext hx))
 have HB := Lib.hid (fun W (h : Ext (w.alloc (bookBox (.slice ga r.goods.length gk) r (.slice ea r.entries.length ec))) W) => BoxAt.ext (BoxAt.new w (.slice ga r.goods.length gk) r (.slice ea r.entries.length ec)) h)
 rw [hs] at HSL
 rw [hb] at HRR
 have hmix : Tryz.prog.follows .mixedOrders = true := by kernel_rfl
 clear hr hr' ht hm hs hb
 go_enter Tryz.func9, Tryz.ntmps9
 obtain ⟨z0, z1, z2, z3⟩ := HB.out _ (Ext.refl _)
 go_wp2_with (first
  | (go_at_call 10; refine (HSL.out _ HX0.out).mono ?_; rintro e w1 ⟨rfl, hx1⟩; have hy1 := Ext.trans (Ext.refl (w.alloc (bookBox (.slice ga r.goods.length gk) r (.slice ea r.entries.length ec)))) hx1; clear z0 z1 z2 z3; obtain ⟨z0, z1, z2, z3⟩ := HB.out _ hy1)
  | (go_at_call 22; refine (HRR.out _ (HX0.out.trans hy1)).mono ?_; rintro e w2 ⟨rfl, hx2⟩; have hy2 := Ext.trans hy1 hx2; clear z0 z1 z2 z3; obtain ⟨z0, z1, z2, z3⟩ := HB.out _ hy2)
  | (go_at_call 11; refine (HL.out _ (HX0.out.trans hy2)).mono ?_; rintro e wk ⟨rfl, hxk⟩))
 go_ret
 exact ⟨rfl, (HX0.out.trans hy2).trans hxk⟩
set_option maxRecDepth 100000 in
set_option maxHeartbeats 16000000 in
theorem spoiltL_e2 (v : Value) (r : Book) (p d : Int) (w : World) (hr : BookAt w v r) (ht : TabOk w) (hm : MaxOk w) (hs : shortB r = true) (hb : isBookB r = true) (hd : d < 0) : Calls Tryz.prog 9 #[v, .int .i64 p, .int .i64 d] w (TrueP w) := by
 have hr' := hr
 obtain ⟨ga, gk, ea, ec, rfl, _, _⟩ := hr.open
 have HX0 := Lib.hid ((Ext.refl w).alloc (bookBox (.slice ga r.goods.length gk) r (.slice ea r.entries.length ec)))
 have HSL := Lib.hid (fun w1 (hx : Ext w w1) => short_any _ r w1 (hr'.ext hx))
 have HRR := Lib.hid (fun w1 (hx : Ext w w1) => rbook_any _ r w1 (hr'.ext hx))
 have HL := Lib.hid (fun w1 (hx : Ext w w1) => lknown_any w1 (ht.ext hx) (hm.ext hx))
 have HB := Lib.hid (fun W (h : Ext (w.alloc (bookBox (.slice ga r.goods.length gk) r (.slice ea r.entries.length ec))) W) => BoxAt.ext (BoxAt.new w (.slice ga r.goods.length gk) r (.slice ea r.entries.length ec)) h)
 rw [hs] at HSL
 rw [hb] at HRR
 have d1 : decide (d < 0) = true := by simpa using hd
 have hmix : Tryz.prog.follows .mixedOrders = true := by kernel_rfl
 clear hr hr' ht hm hs hb hd
 go_enter Tryz.func9, Tryz.ntmps9
 obtain ⟨z0, z1, z2, z3⟩ := HB.out _ (Ext.refl _)
 go_wp2_with (first
  | (go_at_call 10; refine (HSL.out _ HX0.out).mono ?_; rintro e w1 ⟨rfl, hx1⟩; have hy1 := Ext.trans (Ext.refl (w.alloc (bookBox (.slice ga r.goods.length gk) r (.slice ea r.entries.length ec)))) hx1; clear z0 z1 z2 z3; obtain ⟨z0, z1, z2, z3⟩ := HB.out _ hy1)
  | (go_at_call 22; refine (HRR.out _ (HX0.out.trans hy1)).mono ?_; rintro e w2 ⟨rfl, hx2⟩; have hy2 := Ext.trans hy1 hx2; clear z0 z1 z2 z3; obtain ⟨z0, z1, z2, z3⟩ := HB.out _ hy2)
  | (go_at_call 11; refine (HL.out _ (HX0.out.trans hy2)).mono ?_; rintro e wk ⟨rfl, hxk⟩))
 go_ret
 exact ⟨rfl, (HX0.out.trans hy2).trans hxk⟩
set_option maxRecDepth 100000 in
set_option maxHeartbeats 16000000 in
theorem spoiltL_e3 (v : Value) (r : Book) (p d : Int) (w : World) (hr : BookAt w v r) (ht : TabOk w) (hm : MaxOk w) (hs : shortB r = true) (hb : isBookB r = true) (hd0 : 0 ≤ d) (hd : 9 < d) : Calls Tryz.prog 9 #[v, .int .i64 p, .int .i64 d] w (TrueP w) := by
 have hr' := hr
 obtain ⟨ga, gk, ea, ec, rfl, _, _⟩ := hr.open
 have HX0 := Lib.hid ((Ext.refl w).alloc (bookBox (.slice ga r.goods.length gk) r (.slice ea r.entries.length ec)))
 have HSL := Lib.hid (fun w1 (hx : Ext w w1) => short_any _ r w1 (hr'.ext hx))
 have HRR := Lib.hid (fun w1 (hx : Ext w w1) => rbook_any _ r w1 (hr'.ext hx))
 have HL := Lib.hid (fun w1 (hx : Ext w w1) => lknown_any w1 (ht.ext hx) (hm.ext hx))
 have HB := Lib.hid (fun W (h : Ext (w.alloc (bookBox (.slice ga r.goods.length gk) r (.slice ea r.entries.length ec))) W) => BoxAt.ext (BoxAt.new w (.slice ga r.goods.length gk) r (.slice ea r.entries.length ec)) h)
 rw [hs] at HSL
 rw [hb] at HRR
 have d1 : decide (d < 0) = false := by simp; omega
 have d2 : decide (9 < d) = true := by simpa using hd
 have hmix : Tryz.prog.follows .mixedOrders = true := by kernel_rfl
 clear hr hr' ht hm hs hb hd hd0
 go_enter Tryz.func9, Tryz.ntmps9
 obtain ⟨z0, z1, z2, z3⟩ := HB.out _ (Ext.refl _)
 go_wp2_with (first
  | (go_at_call 10; refine (HSL.out _ HX0.out).mono ?_; rintro e w1 ⟨rfl, hx1⟩; have hy1 := Ext.trans (Ext.refl (w.alloc (bookBox (.slice ga r.goods.length gk) r (.slice ea r.entries.length ec)))) hx1; clear z0 z1 z2 z3; obtain ⟨z0, z1, z2, z3⟩ := HB.out _ hy1)
  | (go_at_call 22; refine (HRR.out _ (HX0.out.trans hy1)).mono ?_; rintro e w2 ⟨rfl, hx2⟩; have hy2 := Ext.trans hy1 hx2; clear z0 z1 z2 z3; obtain ⟨z0, z1, z2, z3⟩ := HB.out _ hy2)
  | (go_at_call 11; refine (HL.out _ (HX0.out.trans hy2)).mono ?_; rintro e wk ⟨rfl, hxk⟩))
 go_ret
 exact ⟨rfl, (HX0.out.trans hy2).trans hxk⟩
set_option maxRecDepth 100000 in
set_option maxHeartbeats 16000000 in
theorem spoiltL_e4 (v : Value) (r : Book) (p d : Int) (w : World) (hr : BookAt w v r) (ht : TabOk w) (hm : MaxOk w) (hs : shortB r = true) (hb : isBookB r = true) (hd0 : 0 ≤ d) (hd9 : d ≤ 9) (s : List UInt8) (hst : textT r = s) (hp : p < 0) : Calls Tryz.prog 9 #[v, .int .i64 p, .int .i64 d] w (TrueP w) := by
 have hr' := hr
 obtain ⟨ga, gk, ea, ec, rfl, _, _⟩ := hr.open
 have HX0 := Lib.hid ((Ext.refl w).alloc (bookBox (.slice ga r.goods.length gk) r (.slice ea r.entries.length ec)))
 have HSL := Lib.hid (fun w1 (hx : Ext w w1) => short_any _ r w1 (hr'.ext hx))
 have HRR := Lib.hid (fun w1 (hx : Ext w w1) => rbook_any _ r w1 (hr'.ext hx))
 have HL := Lib.hid (fun w1 (hx : Ext w w1) => lknown_any w1 (ht.ext hx) (hm.ext hx))
 have HB := Lib.hid (fun W (h : Ext (w.alloc (bookBox (.slice ga r.goods.length gk) r (.slice ea r.entries.length ec))) W) => BoxAt.ext (BoxAt.new w (.slice ga r.goods.length gk) r (.slice ea r.entries.length ec)) h)
 rw [hs] at HSL
 rw [hb] at HRR
 have d1 : decide (d < 0) = false := by simp; omega
 have d2 : decide (9 < d) = false := by simp; omega
 have HPR := Lib.hid (fun w1 (hx : Ext w w1) => (print_any _ r w1 (hr'.ext hx) (ht.ext hx)).mono (R' := fun e w' => e = .returned (.tuple #[strV s, .int .i64 0]) ∧ Ext w1 w') (fun e w' h => by
  obtain ⟨h1, h2⟩ := h
  rw [if_pos hb, if_pos hb, hst] at h1
  exact ⟨h1, h2⟩))
 have p1 : decide (p < 0) = true := by simpa using hp
 have hmix : Tryz.prog.follows .mixedOrders = true := by kernel_rfl
 clear hr hr' ht hm hs hb hst hp
 go_enter Tryz.func9, Tryz.ntmps9
 obtain ⟨z0, z1, z2, z3⟩ := HB.out _ (Ext.refl _)
 go_wp2_with (first
  | (go_at_call 10; refine (HSL.out _ HX0.out).mono ?_; rintro e w1 ⟨rfl, hx1⟩; have hy1 := Ext.trans (Ext.refl (w.alloc (bookBox (.slice ga r.goods.length gk) r (.slice ea r.entries.length ec)))) hx1; clear z0 z1 z2 z3; obtain ⟨z0, z1, z2, z3⟩ := HB.out _ hy1)
  | (go_at_call 22; refine (HRR.out _ (HX0.out.trans hy1)).mono ?_; rintro e w2 ⟨rfl, hx2⟩; have hy2 := Ext.trans hy1 hx2; clear z0 z1 z2 z3; obtain ⟨z0, z1, z2, z3⟩ := HB.out _ hy2)
  | (go_at_call 41; refine (HPR.out _ (HX0.out.trans hy2)).mono ?_; rintro e w3 ⟨rfl, hx3⟩; have hy3 := Ext.trans hy2 hx3; clear z0 z1 z2 z3; obtain ⟨z0, z1, z2, z3⟩ := HB.out _ hy3)
  | (go_at_call 11; refine (HL.out _ (HX0.out.trans hy3)).mono ?_; rintro e wk ⟨rfl, hxk⟩))
 go_ret
 exact ⟨rfl, (HX0.out.trans hy3).trans hxk⟩
set_option maxRecDepth 100000 in
set_option maxHeartbeats 16000000 in
theorem spoiltL_e5 (v : Value) (r : Book) (p d : Int) (w : World) (hr : BookAt w v r) (ht : TabOk w) (hm : MaxOk w) (hs : shortB r = true) (hb : isBookB r = true) (hd0 : 0 ≤ d) (hd9 : d ≤ 9) (s : List UInt8) (hst : textT r = s) (hp0 : 0 ≤ p) (hp : s.length ≤ p) : Calls Tryz.prog 9 #[v, .int .i64 p, .int .i64 d] w (TrueP w) := by
 have hr' := hr
 obtain ⟨ga, gk, ea, ec, rfl, _, _⟩ := hr.open
 have HX0 := Lib.hid ((Ext.refl w).alloc (bookBox (.slice ga r.goods.length gk) r (.slice ea r.entries.length ec)))
 have HSL := Lib.hid (fun w1 (hx : Ext w w1) => short_any _ r w1 (hr'.ext hx))
 have HRR := Lib.hid (fun w1 (hx : Ext w w1) => rbook_any _ r w1 (hr'.ext hx))
 have HL := Lib.hid (fun w1 (hx : Ext w w1) => lknown_any w1 (ht.ext hx) (hm.ext hx))
 have HB := Lib.hid (fun W (h : Ext (w.alloc (bookBox (.slice ga r.goods.length gk) r (.slice ea r.entries.length ec))) W) => BoxAt.ext (BoxAt.new w (.slice ga r.goods.length gk) r (.slice ea r.entries.length ec)) h)
 rw [hs] at HSL
 rw [hb] at HRR
 have d1 : decide (d < 0) = false := by simp; omega
 have d2 : decide (9 < d) = false := by simp; omega
 have HPR := Lib.hid (fun w1 (hx : Ext w w1) => (print_any _ r w1 (hr'.ext hx) (ht.ext hx)).mono (R' := fun e w' => e = .returned (.tuple #[strV s, .int .i64 0]) ∧ Ext w1 w') (fun e w' h => by
  obtain ⟨h1, h2⟩ := h
  rw [if_pos hb, if_pos hb, hst] at h1
  exact ⟨h1, h2⟩))
 have p1 : decide (p < 0) = false := by simp; omega
 have p2 : decide ((s.length : Int) ≤ p) = true := by simpa using hp
 have hmix : Tryz.prog.follows .mixedOrders = true := by kernel_rfl
 clear hr hr' ht hm hs hb hst hp hp0
 go_enter Tryz.func9, Tryz.ntmps9
 obtain ⟨z0, z1, z2, z3⟩ := HB.out _ (Ext.refl _)
 go_wp2_with (first
  | (go_at_call 10; refine (HSL.out _ HX0.out).mono ?_; rintro e w1 ⟨rfl, hx1⟩; have hy1 := Ext.trans (Ext.refl (w.alloc (bookBox (.slice ga r.goods.length gk) r (.slice ea r.entries.length ec)))) hx1; clear z0 z1 z2 z3; obtain ⟨z0, z1, z2, z3⟩ := HB.out _ hy1)
  | (go_at_call 22; refine (HRR.out _ (HX0.out.trans hy1)).mono ?_; rintro e w2 ⟨rfl, hx2⟩; have hy2 := Ext.trans hy1 hx2; clear z0 z1 z2 z3; obtain ⟨z0, z1, z2, z3⟩ := HB.out _ hy2)
  | (go_at_call 41; refine (HPR.out _ (HX0.out.trans hy2)).mono ?_; rintro e w3 ⟨rfl, hx3⟩; have hy3 := Ext.trans hy2 hx3; clear z0 z1 z2 z3; obtain ⟨z0, z1, z2, z3⟩ := HB.out _ hy3)
  | (go_at_call 11; refine (HL.out _ (HX0.out.trans hy3)).mono ?_; rintro e wk ⟨rfl, hxk⟩))
 go_ret
 exact ⟨rfl, (HX0.out.trans hy3).trans hxk⟩
set_option maxRecDepth 100000 in
set_option maxHeartbeats 16000000 in
theorem spoiltL_e6 (v : Value) (r : Book) (p d : Int) (w : World) (hr : BookAt w v r) (ht : TabOk w) (hm : MaxOk w) (hs : shortB r = true) (hb : isBookB r = true) (hd0 : 0 ≤ d) (hd9 : d ≤ 9) (s : List UInt8) (hst : textT r = s) (b : UInt8) (pn : Nat) (hpn : pn < s.length) (hb0 : s[pn] = b) (hpe : p = (pn : Int)) (hl : b.toNat < 48) : Calls Tryz.prog 9 #[v, .int .i64 p, .int .i64 d] w (TrueP w) := by
 have hr' := hr
 obtain ⟨ga, gk, ea, ec, rfl, _, _⟩ := hr.open
 have HX0 := Lib.hid ((Ext.refl w).alloc (bookBox (.slice ga r.goods.length gk) r (.slice ea r.entries.length ec)))
 have HSL := Lib.hid (fun w1 (hx : Ext w w1) => short_any _ r w1 (hr'.ext hx))
 have HRR := Lib.hid (fun w1 (hx : Ext w w1) => rbook_any _ r w1 (hr'.ext hx))
 have HL := Lib.hid (fun w1 (hx : Ext w w1) => lknown_any w1 (ht.ext hx) (hm.ext hx))
 have HB := Lib.hid (fun W (h : Ext (w.alloc (bookBox (.slice ga r.goods.length gk) r (.slice ea r.entries.length ec))) W) => BoxAt.ext (BoxAt.new w (.slice ga r.goods.length gk) r (.slice ea r.entries.length ec)) h)
 rw [hs] at HSL
 rw [hb] at HRR
 have d1 : decide (d < 0) = false := by simp; omega
 have d2 : decide (9 < d) = false := by simp; omega
 obtain ⟨bs, hbs⟩ : ∃ bs : ByteArray, bs = ⟨s.toArray⟩ := ⟨_, rfl⟩
 have HPR := Lib.hid (fun w1 (hx : Ext w w1) => (print_any _ r w1 (hr'.ext hx) (ht.ext hx)).mono (R' := fun e w' => e = .returned (.tuple #[.string bs, .int .i64 0]) ∧ Ext w1 w') (fun e w' h => by
  obtain ⟨h1, h2⟩ := h
  rw [if_pos hb, if_pos hb, hst] at h1
  rw [hbs]
  exact ⟨h1, h2⟩))
 subst hpe
 have hsz : bs.size = s.length := by rw [hbs]; exact List.size_toArray ..
 have p1 : decide ((pn : Int) < 0) = false := by simp
 have p2 : decide ((bs.size : Int) ≤ (pn : Int)) = false := by simp; omega
 have h9 : pn < bs.size := by omega
 have h8 : bs[pn] = b := by subst hbs; exact hb0
 have HBS := Lib.hid hbs
 clear hbs hsz
 have l1 : decide ((b.toNat : Int) < 48) = true := by simp; omega
 clear hl
 have hmix : Tryz.prog.follows .mixedOrders = true := by kernel_rfl
 clear hr hr' ht hm hs hb hst hpn hb0
 go_enter Tryz.func9, Tryz.ntmps9
 obtain ⟨z0, z1, z2, z3⟩ := HB.out _ (Ext.refl _)
 go_wp2_with (first
  | (go_at_call 10; refine (HSL.out _ HX0.out).mono ?_; rintro e w1 ⟨rfl, hx1⟩; have hy1 := Ext.trans (Ext.refl (w.alloc (bookBox (.slice ga r.goods.length gk) r (.slice ea r.entries.length ec)))) hx1; clear z0 z1 z2 z3; obtain ⟨z0, z1, z2, z3⟩ := HB.out _ hy1)
  | (go_at_call 22; refine (HRR.out _ (HX0.out.trans hy1)).mono ?_; rintro e w2 ⟨rfl, hx2⟩; have hy2 := Ext.trans hy1 hx2; clear z0 z1 z2 z3; obtain ⟨z0, z1, z2, z3⟩ := HB.out _ hy2)
  | (go_at_call 41; refine (HPR.out _ (HX0.out.trans hy2)).mono ?_; rintro e w3 ⟨rfl, hx3⟩; have hy3 := Ext.trans hy2 hx3; clear z0 z1 z2 z3; obtain ⟨z0, z1, z2, z3⟩ := HB.out _ hy3)
  | (go_at_call 11; refine (HL.out _ (HX0.out.trans hy3)).mono ?_; rintro e wk ⟨rfl, hxk⟩))
 go_ret
 exact ⟨rfl, (HX0.out.trans hy3).trans hxk⟩
set_option maxRecDepth 100000 in
set_option maxHeartbeats 16000000 in
theorem spoiltL_e7 (v : Value) (r : Book) (p d : Int) (w : World) (hr : BookAt w v r) (ht : TabOk w) (hm : MaxOk w) (hs : shortB r = true) (hb : isBookB r = true) (hd0 : 0 ≤ d) (hd9 : d ≤ 9) (s : List UInt8) (hst : textT r = s) (b : UInt8) (pn : Nat) (hpn : pn < s.length) (hb0 : s[pn] = b) (hpe : p = (pn : Int)) (hl : 57 < b.toNat) : Calls Tryz.prog 9 #[v, .int .i64 p, .int .i64 d] w (TrueP w) := by
 have hr' := hr
 obtain ⟨ga, gk, ea, ec, rfl, _, _⟩ := hr.open
 have HX0 := Lib.hid ((Ext.refl w).alloc (bookBox (.slice ga r.goods.length gk) r (.slice ea r.entries.length ec)))
 have HSL := Lib.hid (fun w1 (hx : Ext w w1) => short_any _ r w1 (hr'.ext hx))
 have HRR := Lib.hid (fun w1 (hx : Ext w w1) => rbook_any _ r w1 (hr'.ext hx))
 have HL := Lib.hid (fun w1 (hx : Ext w w1) => lknown_any w1 (ht.ext hx) (hm.ext hx))
 have HB := Lib.hid (fun W (h : Ext (w.alloc (bookBox (.slice ga r.goods.length gk) r (.slice ea r.entries.length ec))) W) => BoxAt.ext (BoxAt.new w (.slice ga r.goods.length gk) r (.slice ea r.entries.length ec)) h)
 rw [hs] at HSL
 rw [hb] at HRR
 have d1 : decide (d < 0) = false := by simp; omega
 have d2 : decide (9 < d) = false := by simp; omega
 obtain ⟨bs, hbs⟩ : ∃ bs : ByteArray, bs = ⟨s.toArray⟩ := ⟨_, rfl⟩
 have HPR := Lib.hid (fun w1 (hx : Ext w w1) => (print_any _ r w1 (hr'.ext hx) (ht.ext hx)).mono (R' := fun e w' => e = .returned (.tuple #[.string bs, .int .i64 0]) ∧ Ext w1 w') (fun e w' h => by
  obtain ⟨h1, h2⟩ := h
  rw [if_pos hb, if_pos hb, hst] at h1
  rw [hbs]
  exact ⟨h1, h2⟩))
 subst hpe
 have hsz : bs.size = s.length := by rw [hbs]; exact List.size_toArray ..
 have p1 : decide ((pn : Int) < 0) = false := by simp
 have p2 : decide ((bs.size : Int) ≤ (pn : Int)) = false := by simp; omega
 have h9 : pn < bs.size := by omega
 have h8 : bs[pn] = b := by subst hbs; exact hb0
 have HBS := Lib.hid hbs
 clear hbs hsz
 have l1 : decide ((b.toNat : Int) < 48) = false := by simp; omega
 have l2 : decide (57 < (b.toNat : Int)) = true := by simp; omega
 clear hl
 have hmix : Tryz.prog.follows .mixedOrders = true := by kernel_rfl
 clear hr hr' ht hm hs hb hst hpn hb0
 go_enter Tryz.func9, Tryz.ntmps9
 obtain ⟨z0, z1, z2, z3⟩ := HB.out _ (Ext.refl _)
 go_wp2_with (first
  | (go_at_call 10; refine (HSL.out _ HX0.out).mono ?_; rintro e w1 ⟨rfl, hx1⟩; have hy1 := Ext.trans (Ext.refl (w.alloc (bookBox (.slice ga r.goods.length gk) r (.slice ea r.entries.length ec)))) hx1; clear z0 z1 z2 z3; obtain ⟨z0, z1, z2, z3⟩ := HB.out _ hy1)
  | (go_at_call 22; refine (HRR.out _ (HX0.out.trans hy1)).mono ?_; rintro e w2 ⟨rfl, hx2⟩; have hy2 := Ext.trans hy1 hx2; clear z0 z1 z2 z3; obtain ⟨z0, z1, z2, z3⟩ := HB.out _ hy2)
  | (go_at_call 41; refine (HPR.out _ (HX0.out.trans hy2)).mono ?_; rintro e w3 ⟨rfl, hx3⟩; have hy3 := Ext.trans hy2 hx3; clear z0 z1 z2 z3; obtain ⟨z0, z1, z2, z3⟩ := HB.out _ hy3)
  | (go_at_call 11; refine (HL.out _ (HX0.out.trans hy3)).mono ?_; rintro e wk ⟨rfl, hxk⟩))
 go_ret
 exact ⟨rfl, (HX0.out.trans hy3).trans hxk⟩
set_option maxRecDepth 100000 in
set_option maxHeartbeats 16000000 in
theorem spoiltL_e8 (v : Value) (r : Book) (p d : Int) (w : World) (hr : BookAt w v r) (ht : TabOk w) (hm : MaxOk w) (hs : shortB r = true) (hb : isBookB r = true) (hd0 : 0 ≤ d) (hd9 : d ≤ 9) (s : List UInt8) (hst : textT r = s) (b : UInt8) (pn : Nat) (hpn : pn < s.length) (hb0 : s[pn] = b) (hpe : p = (pn : Int)) (hq : (b.toNat : Int) - 48 = d) : Calls Tryz.prog 9 #[v, .int .i64 p, .int .i64 d] w (TrueP w) := by
 have hr' := hr
 obtain ⟨ga, gk, ea, ec, rfl, _, _⟩ := hr.open
 have HX0 := Lib.hid ((Ext.refl w).alloc (bookBox (.slice ga r.goods.length gk) r (.slice ea r.entries.length ec)))
 have HSL := Lib.hid (fun w1 (hx : Ext w w1) => short_any _ r w1 (hr'.ext hx))
 have HRR := Lib.hid (fun w1 (hx : Ext w w1) => rbook_any _ r w1 (hr'.ext hx))
 have HL := Lib.hid (fun w1 (hx : Ext w w1) => lknown_any w1 (ht.ext hx) (hm.ext hx))
 have HB := Lib.hid (fun W (h : Ext (w.alloc (bookBox (.slice ga r.goods.length gk) r (.slice ea r.entries.length ec))) W) => BoxAt.ext (BoxAt.new w (.slice ga r.goods.length gk) r (.slice ea r.entries.length ec)) h)
 rw [hs] at HSL
 rw [hb] at HRR
 have d1 : decide (d < 0) = false := by simp; omega
 have d2 : decide (9 < d) = false := by simp; omega
 obtain ⟨bs, hbs⟩ : ∃ bs : ByteArray, bs = ⟨s.toArray⟩ := ⟨_, rfl⟩
 have HPR := Lib.hid (fun w1 (hx : Ext w w1) => (print_any _ r w1 (hr'.ext hx) (ht.ext hx)).mono (R' := fun e w' => e = .returned (.tuple #[.string bs, .int .i64 0]) ∧ Ext w1 w') (fun e w' h => by
  obtain ⟨h1, h2⟩ := h
  rw [if_pos hb, if_pos hb, hst] at h1
  rw [hbs]
  exact ⟨h1, h2⟩))
 subst hpe
 have hsz : bs.size = s.length := by rw [hbs]; exact List.size_toArray ..
 have p1 : decide ((pn : Int) < 0) = false := by simp
 have p2 : decide ((bs.size : Int) ≤ (pn : Int)) = false := by simp; omega
 have h9 : pn < bs.size := by omega
 have h8 : bs[pn] = b := by subst hbs; exact hb0
 have HBS := Lib.hid hbs
 clear hbs hsz
 have l1 : decide ((b.toNat : Int) < 48) = false := by simp; omega
 have l2 : decide (57 < (b.toNat : Int)) = false := by simp; omega
 have W1 : IntKind.u8.wrap ((b.toNat : Int) - 48) = (b.toNat : Int) - 48 := by rw [IntKind.wrap_u8]; omega
 have W2 : IntKind.i64.wrap ((b.toNat : Int) - 48) = (b.toNat : Int) - 48 := IntWalk.i64_in _ (by omega)
 have l3 : ((b.toNat : Int) - 48 == d) = true := by simp; omega
 clear hq
 have hmix : Tryz.prog.follows .mixedOrders = true := by kernel_rfl
 clear hr hr' ht hm hs hb hst hpn hb0
 go_enter Tryz.func9, Tryz.ntmps9
 obtain ⟨z0, z1, z2, z3⟩ := HB.out _ (Ext.refl _)
 go_wp2_with (first
  | (go_at_call 10; refine (HSL.out _ HX0.out).mono ?_; rintro e w1 ⟨rfl, hx1⟩; have hy1 := Ext.trans (Ext.refl (w.alloc (bookBox (.slice ga r.goods.length gk) r (.slice ea r.entries.length ec)))) hx1; clear z0 z1 z2 z3; obtain ⟨z0, z1, z2, z3⟩ := HB.out _ hy1)
  | (go_at_call 22; refine (HRR.out _ (HX0.out.trans hy1)).mono ?_; rintro e w2 ⟨rfl, hx2⟩; have hy2 := Ext.trans hy1 hx2; clear z0 z1 z2 z3; obtain ⟨z0, z1, z2, z3⟩ := HB.out _ hy2)
  | (go_at_call 41; refine (HPR.out _ (HX0.out.trans hy2)).mono ?_; rintro e w3 ⟨rfl, hx3⟩; have hy3 := Ext.trans hy2 hx3; clear z0 z1 z2 z3; obtain ⟨z0, z1, z2, z3⟩ := HB.out _ hy3)
  | (go_at_call 11; refine (HL.out _ (HX0.out.trans hy3)).mono ?_; rintro e wk ⟨rfl, hxk⟩))
 go_ret
 exact ⟨rfl, (HX0.out.trans hy3).trans hxk⟩
set_option maxRecDepth 100000 in
set_option maxHeartbeats 16000000 in
theorem spoiltL_e9 (v : Value) (r : Book) (p d : Int) (w : World) (hr : BookAt w v r) (ht : TabOk w) (hm : MaxOk w) (hs : shortB r = true) (hb : isBookB r = true) (hd0 : 0 ≤ d) (hd9 : d ≤ 9) (s : List UInt8) (hst : textT r = s) (b : UInt8) (pn : Nat) (hpn : pn < s.length) (hb0 : s[pn] = b) (hpe : p = (pn : Int)) (hl : 48 ≤ b.toNat) (hl2 : b.toNat ≤ 57) (hq : (b.toNat : Int) - 48 ≠ d) (x : UInt8) (hx : (x.toNat : Int) = 48 + d) (hrd : ∀ w1, Ext w w1 → Calls Tryz.prog 42 #[strV (s.set pn x)] w1 (fun e w' => e = .returned (.tuple #[zeroBk, .int .i64 4]) ∧ Ext w1 w')) : Calls Tryz.prog 9 #[v, .int .i64 p, .int .i64 d] w (TrueP w) := by
 have hr' := hr
 obtain ⟨ga, gk, ea, ec, rfl, _, _⟩ := hr.open
 have HX0 := Lib.hid ((Ext.refl w).alloc (bookBox (.slice ga r.goods.length gk) r (.slice ea r.entries.length ec)))
 have HSL := Lib.hid (fun w1 (hx : Ext w w1) => short_any _ r w1 (hr'.ext hx))
 have HRR := Lib.hid (fun w1 (hx : Ext w w1) => rbook_any _ r w1 (hr'.ext hx))
 have HL := Lib.hid (fun w1 (hx : Ext w w1) => lknown_any w1 (ht.ext hx) (hm.ext hx))
 have HB := Lib.hid (fun W (h : Ext (w.alloc (bookBox (.slice ga r.goods.length gk) r (.slice ea r.entries.length ec))) W) => BoxAt.ext (BoxAt.new w (.slice ga r.goods.length gk) r (.slice ea r.entries.length ec)) h)
 rw [hs] at HSL
 rw [hb] at HRR
 have d1 : decide (d < 0) = false := by simp; omega
 have d2 : decide (9 < d) = false := by simp; omega
 obtain ⟨bs, hbs⟩ : ∃ bs : ByteArray, bs = ⟨s.toArray⟩ := ⟨_, rfl⟩
 have HPR := Lib.hid (fun w1 (hx : Ext w w1) => (print_any _ r w1 (hr'.ext hx) (ht.ext hx)).mono (R' := fun e w' => e = .returned (.tuple #[.string bs, .int .i64 0]) ∧ Ext w1 w') (fun e w' h => by
  obtain ⟨h1, h2⟩ := h
  rw [if_pos hb, if_pos hb, hst] at h1
  rw [hbs]
  exact ⟨h1, h2⟩))
 subst hpe
 have hsz : bs.size = s.length := by rw [hbs]; exact List.size_toArray ..
 have p1 : decide ((pn : Int) < 0) = false := by simp
 have p2 : decide ((bs.size : Int) ≤ (pn : Int)) = false := by simp; omega
 have h9 : pn < bs.size := by omega
 have h8 : bs[pn] = b := by subst hbs; exact hb0
 have HBS := Lib.hid hbs
 clear hbs hsz
 have l1 : decide ((b.toNat : Int) < 48) = false := by simp; omega
 have l2 : decide (57 < (b.toNat : Int)) = false := by simp; omega
 have W1 : IntKind.u8.wrap ((b.toNat : Int) - 48) = (b.toNat : Int) - 48 := by rw [IntKind.wrap_u8]; omega
 have W2 : IntKind.i64.wrap ((b.toNat : Int) - 48) = (b.toNat : Int) - 48 := IntWalk.i64_in _ (by omega)
 have l3 : ((b.toNat : Int) - 48 == d) = false := by simp; omega
 have W3 : IntKind.i64.wrap (48 + d) = 48 + d := IntWalk.i64_in _ (by omega)
 have W4 : IntKind.u8.wrap (48 + d) = 48 + d := by rw [IntKind.wrap_u8]; omega
 have HRD := Lib.hid hrd
 have HBK := Lib.hid hx
 have HB0 := Lib.hid (show s[pn]? = some b by rw [List.getElem?_eq_getElem hpn, hb0])
 have HCB : ∀ w0 : World, (convert 9 85 (.string bs)).run Tryz.prog w0 = _ := fun w0 => run_bytes_of_string (P := Tryz.prog) w0 9 85 5 bs Tryz.underlying9 (by kernel_rfl) (by kernel_rfl)
 clear hl hl2 hq hrd hx
 have hmix : Tryz.prog.follows .mixedOrders = true := by kernel_rfl
 clear hr hr' ht hm hs hb hst hpn hb0
 go_enter Tryz.func9, Tryz.ntmps9
 obtain ⟨z0, z1, z2, z3⟩ := HB.out _ (Ext.refl _)
 go_upto_region 9 with (first
  | (go_at_call 10; refine (HSL.out _ HX0.out).mono ?_; rintro e w1 ⟨rfl, hx1⟩; have hy1 := Ext.trans (Ext.refl (w.alloc (bookBox (.slice ga r.goods.length gk) r (.slice ea r.entries.length ec)))) hx1; clear z0 z1 z2 z3; obtain ⟨z0, z1, z2, z3⟩ := HB.out _ hy1)
  | (go_at_call 22; refine (HRR.out _ (HX0.out.trans hy1)).mono ?_; rintro e w2 ⟨rfl, hx2⟩; have hy2 := Ext.trans hy1 hx2; clear z0 z1 z2 z3; obtain ⟨z0, z1, z2, z3⟩ := HB.out _ hy2)
  | (go_at_call 41; refine (HPR.out _ (HX0.out.trans hy2)).mono ?_; rintro e w3 ⟨rfl, hx3⟩; have hy3 := Ext.trans hy2 hx3; clear z0 z1 z2 z3; obtain ⟨z0, z1, z2, z3⟩ := HB.out _ hy3))
 have e8 : Ext w3 ((w3.alloc (rowO bs (grownCap w3 bs.size 0 5))).drew) := ((Ext.refl w3).alloc _).drew
 have c8 := rowO_cells HBS.out w3 (grownCap w3 bs.size 0 5)
 have f8 := row_frozen h9 w3 (grownCap w3 bs.size 0 5)
 obtain ⟨hpn, hb0⟩ := str_index HB0.out
 have cp := c8 pn hpn
 rw [hb0] at cp
 generalize (w3.alloc (rowO bs (grownCap w3 bs.size 0 5))).drew = W8 at *
 generalize grownCap w3 bs.size 0 5 = gc at *
 have HE9 := Lib.hid ((HX0.out.trans hy3).trans (e8.setCell (p := ⟨w3.heap.size, pn, none⟩) (Nat.le_refl _) (.int .u8 (48 + d))))
 have HCK := row_back HBS.out c8 hpn HBK.out gc
 clear c8 e8 hpn hb0 h8 z0 z1 z2 z3
 go_wp2_with (first
  | (go_at_call 42; refine (HRD.out _ HE9.out).mono ?_; rintro e w10 ⟨rfl, hx10⟩)
  | (go_at_call 44; refine (sameB_yes zeroBk zeroBk zeroB _ (zero_bk _) (zero_bk _)).mono ?_; rintro e w11 ⟨rfl, hx11⟩)
  | (go_at_call 11; refine (HL.out _ (((HE9.out.trans hx10).alloc _).trans hx11)).mono ?_; rintro e wk ⟨rfl, hxk⟩))
 go_ret
 exact ⟨rfl, (((HE9.out.trans hx10).alloc _).trans hx11).trans hxk⟩
theorem orderSpoilt_any (v : Value) (r : Book) (p d : Int) (w : World) (hr : BookAt w v r) (ht : TabOk w) (hm : MaxOk w) : Calls Tryz.prog 9 #[v, .int .i64 p, .int .i64 d] w (TrueP w) := by
 cases hs : shortB r with
 | false => exact spoiltL_e0 v r p d w hr ht hm hs
 | true =>
 cases hb : isBookB r with
 | false => exact spoiltL_e1 v r p d w hr ht hm hs hb
 | true =>
 by_cases hd : d < 0
 ·exact spoiltL_e2 v r p d w hr ht hm hs hb hd
 by_cases hd9 : 9 < d
 ·exact spoiltL_e3 v r p d w hr ht hm hs hb (by omega) hd9
 have d0 : 0 ≤ d := by omega
 have d9 : d ≤ 9 := by omega
 by_cases hp : p < 0
 ·exact spoiltL_e4 v r p d w hr ht hm hs hb d0 d9 _ rfl hp
 by_cases hp2 : ((textT r).length : Int) ≤ p
 ·exact spoiltL_e5 v r p d w hr ht hm hs hb d0 d9 _ rfl (by omega) hp2
 obtain ⟨pn, rfl⟩ : ∃ pn : Nat, p = (pn : Int) := ⟨p.toNat, by omega⟩
 have hpn : pn < (textT r).length := by omega
 by_cases hl : ((textT r)[pn]).toNat < 48
 ·exact spoiltL_e6 v r pn d w hr ht hm hs hb d0 d9 _ rfl _ pn hpn rfl rfl hl
 by_cases hl2 : 57 < ((textT r)[pn]).toNat
 ·exact spoiltL_e7 v r pn d w hr ht hm hs hb d0 d9 _ rfl _ pn hpn rfl rfl hl2
 by_cases hq : (((textT r)[pn]).toNat : Int) - 48 = d
 ·exact spoiltL_e8 v r pn d w hr ht hm hs hb d0 d9 _ rfl _ pn hpn rfl rfl hq
 have hB := bookB_of hb
 obtain ⟨x, hx⟩ : ∃ x : UInt8, (x.toNat : Int) = 48 + d := ⟨UInt8.ofNat (48 + d).toNat, by rw [UInt8.toNat_ofNat']; omega⟩
 have hno : isTextB ((textT r).set pn x) = false := by
  refine not_text_spoilt hB (List.getElem?_eq_getElem hpn) ?_ ?_ (fun e => hq (by rw [← e]; omega))
  ·unfold digB; simp only [Bool.and_eq_true, decide_eq_true_eq]; omega
  ·unfold digB; simp only [Bool.and_eq_true, decide_eq_true_eq]; omega
 have h4 := text_300 hB
 refine spoiltL_e9 v r pn d w hr ht hm hs hb d0 d9 _ rfl _ pn hpn rfl rfl (by omega) (by omega) hq x hx (fun w1 h1 => ?_)
 have hlen : ((textT r).set pn x).length ≤ 300 := by rw [List.length_set]; exact h4
 refine (Read_any _ w1 (ht.ext h1) (hm.ext h1) (by omega)).mono fun e w' h => ?_
 obtain ⟨u, err, rfl, hx', -, h5, -⟩ := h
 obtain ⟨rfl, rfl⟩ := h5 hlen hno
 exact ⟨rfl, hx'⟩
end Go.Proofs.YtoohhefegfpipaaGreatDoor
