/- Print: the text of a book. -/
import Derived.Test.YtoohhefegfpipaaGreatDoorOpr
namespace Go.Proofs.YtoohhefegfpipaaGreatDoor
open Go.RowKit
/-- What Print answers. -/
def PrintRes (b : Book) (w : World) (e : Ending) (w' : World) : Prop := e = .returned (.tuple #[strV (if isBookB b = true then textT b else []), .int .i64 (if isBookB b = true then 0 else 2)]) ∧ Ext w w'
theorem textSmall_of {b : Book} (h : isBookB b = true) : TextSmall b := by
 have h := bookB_of h
 have h2 := h.g5
 have h3 := h.n8
 have h4 := h.e1
 have h5 := h.e3
 have h6 := h.m0
 have h7 := h.m5
 refine ⟨⟨fun y hy => ?_, fun g hg => ?_, fun x hx y hy => ?_⟩, by omega, by omega⟩
 ·simp only [List.mem_cons, List.mem_nil_iff, or_false] at hy
  omega
 ·have := h.lines g hg; omega
 ·obtain ⟨⟨a1, a2⟩, ⟨a3, a4⟩, a5, a6⟩ := h.entries x hx
  simp only [entN, List.mem_cons, List.mem_nil_iff, or_false] at hy
  omega
set_option maxHeartbeats 1000000 in
theorem print_any (v : Value) (b : Book) (w : World) (hb : BookAt w v b) (ht : TabOk w) : Calls Tryz.prog 41 #[v] w (PrintRes b w) := by
 have HR := Lib.hid (fun w1 (hx : Ext w w1) => isBook_any v b w1 (hb.ext hx))
 have HX := Lib.hid (fun (hB : TextSmall b) w1 (hx : Ext w w1) => text_any v b w1 (hb.ext hx) hB (ht.ext hx))
 obtain ⟨ga, gc, ea, ec, rfl, hgl, hel⟩ := hb.open
 have hb0 := World.alloc_heap_new w (bookBox (.slice ga b.goods.length gc) b (.slice ea b.entries.length ec))
 have HB := Lib.hid hb0
 clear hb hb0 ht
 cases hq : isBookB b with
 | false =>
  have HF : Hid (∀ w1, Ext w w1 → PrintRes b w (.returned (.tuple #[.string ⟨#[]⟩, .int .i64 2])) w1) := fun w1 hx => ⟨by rw [hq]; rfl, hx⟩
  rw [hq] at HR
  clear hq
  go_enter Tryz.func41, Tryz.ntmps41
  go_wp2_with (go_at_call 62; refine (HR.out _ ((Ext.refl w).alloc _)).mono ?_; rintro e w1 ⟨rfl, hx1⟩)
  go_ret2
  exact HF.out _ (((Ext.refl w).alloc _).trans hx1)
 | true =>
  have HF : Hid (∀ w1, Ext w w1 → PrintRes b w (.returned (.tuple #[strV (textT b), .int .i64 0])) w1) := fun w1 hx => ⟨by rw [hq]; rfl, hx⟩
  have hB := textSmall_of hq
  rw [hq] at HR
  clear hq
  go_enter Tryz.func41, Tryz.ntmps41
  go_wp2_with (first
   | (go_at_call 62; refine (HR.out _ ((Ext.refl w).alloc _)).mono ?_; rintro e w1 ⟨rfl, hx1⟩; obtain ⟨⟨z0, z1, z2, z3⟩, -⟩ := block4 ((hx1.block (by simp)).trans HB.out))
   | (go_at_call 82; refine (HX.out hB _ (((Ext.refl w).alloc _).trans hx1)).mono ?_; rintro e w2 ⟨rfl, hx2⟩))
  go_ret2
  exact HF.out _ ((((Ext.refl w).alloc _).trans hx1).trans hx2)
end Go.Proofs.YtoohhefegfpipaaGreatDoor
