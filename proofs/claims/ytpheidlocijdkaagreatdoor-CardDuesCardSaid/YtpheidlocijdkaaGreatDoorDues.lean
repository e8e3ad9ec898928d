/- The law CardDues: the reference's Keeps and Due. -/
import Derived.Test.YtpheidlocijdkaaGreatDoorKepts
namespace Go.Proofs.YtpheidlocijdkaaGreatDoor
open Go.RowKit

def keepsB (r : Round) (l : List Int) : Bool := !l.any (fun n => !inB n 0 143) && decide (l.length = r.houses.length)
theorem keptOk_eq (r : Round) (rate : Int) (l : List Int) : keptOk r rate l = (inB rate 0 1000 && keepsB r l) := by
  unfold keptOk keepsB
  cases inB rate 0 1000 <;> simp [Bool.and_comm]
set_option maxRecDepth 100000 in
set_option maxHeartbeats 2000000 in
theorem rkeeps_any (v kv : Value) (r : Round) (l : List Int) (w : World) (hr : RoundAt w v r) (hk : IntsAt w kv l) :
    Calls Tryz.prog 15 #[v, kv] w fun e w' => e = .returned (.bool (keepsB r l)) ∧ Ext w w' := by
  obtain ⟨hv, rfl, hh⟩ := hr
  obtain ⟨a, c, rfl, h1, h2, _⟩ := hh.open
  obtain ⟨ka, kc, rfl, k1, k2, k3⟩ := hk.open
  unfold Round.cells at *
  clear hh hk
  have hx0 : Ext w (w.alloc (boxR r a c)) := (Ext.refl w).alloc _
  have hb0 := World.alloc_heap_new w (boxR r a c)
  obtain ⟨z0, z1, z2, z3, z4, z5, z6, z7⟩ := round_cells hb0
  have H3 := Lib.hid k3
  have HX := Lib.hid hx0
  clear k3 hx0 hb0 z0 z1 z2 z3 z4 z6 z7
  go_enter Tryz.func15, Tryz.ntmps15
  go_wp2
  have HW : Hid (w.alloc (boxR r a c) = w.alloc (boxR r a c)) := Lib.hid rfl
  generalize hW : w.alloc (boxR r a c) = W at *
  go_loopw [5] (fun i wr => ∃ k : Nat, k ≤ l.length ∧ i = .int .i64 k ∧ Hid ((l.take k).any (fun n => !inB n 0 143) = false) ∧ W = wr) (fun i _ => l.length - (intOf i).toNat)
  case atStart => exact ⟨0, Nat.zero_le _, rfl, by simp [Hid], rfl⟩
  case round =>
    obtain ⟨k, hk, rfl, hno, rfl⟩ := hrel
    by_cases hlt : k < l.length
    · obtain ⟨b, o, n, rfl, hxk, hc⟩ := H3.out k hlt
      have hc' := HX.out.cell hc
      have x2 : decide ((k : Int) < (l.length : Int)) = true := by simpa using hlt
      clear hc
      cases hin : inB n 0 143 with
      | true =>
        have HI := Lib.hid (fun w1 => hin ▸ rkept_any n w1)
        have HN : Hid ((l.take (k + 1)).any (fun n => !inB n 0 143) = false) := by
          unfold Hid; rw [any_take_succ _ hxk.out, hno.out, hin]; rfl
        clear hin
        go_wp2_with (go_at_call 64; refine (HI.out _).mono ?_; rintro e w' ⟨rfl, rfl⟩)
        go_roundw
        case rel => exact ⟨k + 1, by omega, by go_num, HN, by trivial⟩
        case measure => simp [intOf]; omega
      | false =>
        have HI := Lib.hid (fun w1 => hin ▸ rkept_any n w1)
        have HN : Hid (keepsB r l = false) := by
          unfold Hid keepsB; rw [any_of_at (fun n => !inB n 0 143) hxk.out (by rw [hin]; rfl)]; simp
        clear hin
        go_wp2_with (go_at_call 64; refine (HI.out _).mono ?_; rintro e w' ⟨rfl, rfl⟩)
        go_ret
        exact ⟨by rw [HN.out] <;> rfl, HX.out⟩
    · have hke : k = l.length := by omega
      have x2 : decide ((k : Int) < (l.length : Int)) = false := by simp; omega
      have HN : Hid (keepsB r l = ((l.length : Int) == (r.houses.length : Int))) := by
        have h := hno.out
        rw [List.take_of_length_le (by omega)] at h
        unfold Hid keepsB; rw [h]
        by_cases q : l.length = r.houses.length
        · simp [q]
        · have : ¬ ((l.length : Int) = (r.houses.length : Int)) := by omega
          simp [q, this]
      clear hke
      go_wp2
      go_ret
      exact ⟨by rw [HN.out] <;> rfl, HX.out⟩

set_option maxRecDepth 100000 in
set_option maxHeartbeats 4000000 in
theorem rdue_any (v kv : Value) (r : Round) (rate : Int) (kept : List Int) (w : World) (hr : RoundAt w v r) (hk : IntsAt w kv kept) (hB : RoundB r) (ha : agreeB r (-1) = true) (hok : keptOk r rate kept = true) :
    Calls Tryz.prog 18 #[v, .int .i64 rate, kv] w fun e w' => ∃ v1, e = .returned v1 ∧ Ext w w' ∧ SpansAt w' v1 (dueL r rate kept) := by
  have HRK := Lib.hid (fun w1 (hx : Ext w w1) => rknown_any v r w1 (hr.ext hx) hB ha)
  obtain ⟨hv, rfl, hh⟩ := hr
  obtain ⟨a, c, rfl, h1, h2, _⟩ := hh.open
  obtain ⟨ka, kc, rfl, k1, k2, k3⟩ := hk.open
  have hok2 := hok
  simp only [keptOk, Bool.and_eq_true, decide_eq_true_eq, Bool.not_eq_true'] at hok2
  obtain ⟨⟨hq1, hq2⟩, hq3⟩ := hok2
  have hr0 := inB_iff.1 hq1
  have h4 := hB.h2
  have HK3 := Lib.hid k3
  have HQ2 := Lib.hid hq2
  have HQ3 := Lib.hid hq3
  have HAG := Lib.hid ha
  unfold Round.cells at *
  have hmix : Tryz.prog.follows .mixedOrders = true := by kernel_rfl
  have hx0 : Ext w (w.alloc (boxR r a c)) := (Ext.refl w).alloc _
  clear hh hk k3 hok hq1 hq2 hq3 ha
  go_enter Tryz.func18, Tryz.ntmps18
  go_wp2_with (go_at_call 66; refine (HRK.out _ hx0).mono ?_; rintro e w1 ⟨v1, rfl, hx1, hs1⟩; obtain ⟨sa, sc, rfl, s1, s2, s3⟩ := hs1.open; have HS3 := Lib.hid s3; clear hs1 s3; have hxw := hx0.trans hx1; have hkl := knownL_length r)
  go_loopw [8, 9] (fun out i wr => ∃ k : Nat, k ≤ r.houses.length ∧ i = .int .i64 k ∧ wr.ownsRow w1.heap.size 23 2 out k (((dueL r rate kept).take k).flatMap spanCells) ∧ Ext w wr ∧ Ext w1 wr) (fun _ i _ => r.houses.length - (intOf i).toNat)
  case atStart => exact ⟨0, Nat.zero_le _, rfl, World.ownsRow_nil _ _ _ _, hxw, Ext.refl _⟩
  case round =>
    obtain ⟨k, hk, rfl, hown, hx, hx1'⟩ := hrel
    by_cases hlt : k < r.houses.length
    · obtain ⟨kb, ko, kk, hke, hkk, hkc⟩ := HK3.out k (by rw [HQ2.out]; exact hlt)
      subst hke
      obtain ⟨sb, so, sp, hse, hsk, hsc0, hsc1⟩ := HS3.out k (by rw [hkl]; exact hlt)
      subst hse
      have hkb : 0 ≤ kk ∧ kk ≤ 143 := by
        have h := HQ3.out
        simp only [List.any_eq_false] at h
        have := h kk (List.mem_of_getElem? hkk.out)
        simpa [inB] using this
      have hspe : sp = spanOf (houseL r (-1) k) := by
        have h := hsk.out
        rw [knownL_at r hlt] at h
        exact (Option.some.inj h).symm
      have hsb := span_bd hB HAG.out hlt
      have hkn := flat_succ spanCells (dueL_at r rate kept hlt hkk.out)
      rw [← hspe] at hsb hkn
      have HKN := Lib.hid hkn
      obtain ⟨lo, hi⟩ := sp
      simp only at hsb hsc0 hsc1
      obtain ⟨s1', s2', s3', s4'⟩ := hsb
      obtain ⟨b1, b2⟩ := hkb
      have hkc' := hx.cell hkc
      have hsc0' := hx1'.cell hsc0
      have hsc1' := hx1'.cell hsc1
      have x2 : decide ((k : Int) < ((knownL r).length : Int)) = true := by rw [hkl]; simpa using hlt
      have x3 : k < kept.length := by rw [HQ2.out]; exact hlt
      have x4 : (k : Int) < (kept.length : Int) := by omega
      have x5 : k < (knownL r).length := by rw [hkl]; exact hlt
      have x6 : (k : Int) < ((knownL r).length : Int) := by omega
      have hsz : k + 1 ≤ maxLen ∧ (k + 1) * 16 ≤ 140737488355328 := by unfold maxLen; omega
      have HSZ := Lib.hid hsz
      have hm1 : (kk + lo) / 144 ≤ 22 := by omega
      have hm2 : (kk + hi) / 144 ≤ 22 := by omega
      have hp1 : 0 ≤ (kk + lo) / 144 * rate := Int.mul_nonneg (by omega) hr0.1
      have hp2 : (kk + lo) / 144 * rate ≤ 22000 := by
        have := Int.mul_le_mul hm1 hr0.2 hr0.1 (by omega : (0:Int) ≤ 22); omega
      have hp3 : 0 ≤ (kk + hi) / 144 * rate := Int.mul_nonneg (by omega) hr0.1
      have hp4 : (kk + hi) / 144 * rate ≤ 22000 := by
        have := Int.mul_le_mul hm2 hr0.2 hr0.1 (by omega : (0:Int) ≤ 22); omega
      have hkb1 : kb < w.heap.size := lt_of_cell hkc
      have hsb1 : sb < w1.heap.size := lt_of_cell hsc0
      have hxws := hxw.size
      clear hkn hsz hkc hsc0 hsc1 hspe hsk
      go_upto_region 6 with fail
      have E1 : IntKind.i64.wrap (kk + lo) = kk + lo := IntWalk.i64_in _ (by omega)
      have E2 : IntKind.i64.wrap (kk + hi) = kk + hi := IntWalk.i64_in _ (by omega)
      have E3 : IntKind.i64.wrap (IntKind.i64.wrap ((kk + lo).tdiv 144) * rate) = (kk + lo) / 144 * rate := by
        rw [Int.tdiv_eq_ediv_of_nonneg (by omega), IntWalk.i64_in ((kk + lo) / 144) (by omega), IntWalk.i64_in _ (by omega)]
      have E4 : IntKind.i64.wrap (IntKind.i64.wrap ((kk + hi).tdiv 144) * rate) = (kk + hi) / 144 * rate := by
        rw [Int.tdiv_eq_ediv_of_nonneg (by omega), IntWalk.i64_in ((kk + hi) / 144) (by omega), IntWalk.i64_in _ (by omega)]
      have hne1 : ∀ g, u8.ownBlock = some g → g < wr.heap.size ∧ w1.heap.size ≤ g := fun g hg => ⟨(World.ownsRow.lt hown g hg).2, (World.ownsRow.lt hown g hg).1⟩
      have HS4 := Lib.hid (fun (w4 : World) (o : Obj) (hg : (wr.drew.alloc o).grownBy w4 u8.ownBlock) => And.intro
        (frozen_grown hg (((Ext.refl wr).drew.alloc o).cell hkc') (fun e => by have := hne1 _ e.symm; simp only at this; omega)).1 (And.intro
        (frozen_grown hg (((Ext.refl wr).drew.alloc o).cell hsc0') (fun e => by have := hne1 _ e.symm; simp only at this; omega)).1
        (frozen_grown hg (((Ext.refl wr).drew.alloc o).cell hsc1') (fun e => by have := hne1 _ e.symm; simp only at this; omega)).1))
      have HOWN := Lib.hid (owns_ext hown ((Ext.refl wr).drew))
      have HNE := Lib.hid hne1
      have hbz3 := hx1'.size
      clear hown hne1
      go_region_held3 (fun w' => w'.cell? ⟨kb, ko + k, none⟩ = some (.int .i64 kk) ∧ w'.cell? ⟨sb, so + k * 2, none⟩ = some (.int .i64 lo) ∧ w'.cell? ⟨sb, so + k * 2 + 1, none⟩ = some (.int .i64 hi)) (first | go_keep | exact HS4.out _ _ hg4.out)
        (first
          | (refine step_push_at E_spans (by rfl) _ _ (by rfl) w1.heap.size (by rfl) HOWN.out (by rfl) (by rfl) (by rfl) (by simp [Value.oneCell']) ?_ HSZ.out.1 HSZ.out.2 hbz3; intro g cap w4 hown4 hg hloc4; have hg4 := Lib.hid hg; have HO4 := Lib.hid hown4; clear hg hown4 hloc4))
      clear E1 E2 E3 E4
      go_wp2
      refine ⟨⟨k + 1, by omega, by go_num, ?_, ?_, ?_⟩, by simp [intOf]; omega⟩
      · rw [HKN.out]
        have h := HO4.out
        rw [Int.add_comm kk lo, Int.add_comm kk hi] at h
        exact h
      · exact ((hx.trans (Ext.refl wr).drew).alloc _).grown hg4.out (fun k hk => by have := (HNE.out k hk).2; omega)
      · exact ((hx1'.trans (Ext.refl wr).drew).alloc _).grown hg4.out (fun k hk => (HNE.out k hk).2)
    · have hke : k = r.houses.length := by omega
      have x2 : decide ((k : Int) < ((knownL r).length : Int)) = false := by rw [hkl]; simp; omega
      have hs : SpansAt wr u8 (dueL r rate kept) := by
        have := RowAt.of_owns hown
        rw [List.take_of_length_le (by rw [dueL_length]; omega)] at this
        unfold SpansAt; rw [dueL_length, ← hke]; exact this
      have HFIN := Lib.hid (And.intro hx hs)
      clear hke hs hown
      go_wp2
      go_ret
      exact ⟨_, rfl, HFIN.out⟩
end Go.Proofs.YtpheidlocijdkaaGreatDoor
