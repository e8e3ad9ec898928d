/- The reference's Load, Length, Roads. -/
import Derived.Test.YtapkbonlijhmjaaGreatDoorRroads
namespace Go.Proofs.YtapkbonlijhmjaaGreatDoor
open Go.RowKit

theorem loadOf_nil (c : Roads) : loadOf c [] = 0 := rfl
theorem loadOf_succ {c : Roads} {l : List Int} {k m : Nat} {x : Int} (hk : l[k]? = some ((m : Int) + 1)) (hx : c.loads.getD ((m : Int) + 1 - 1).toNat 0 = x) : loadOf c (l.take (k + 1)) = loadOf c (l.take k) + x := by
  unfold loadOf
  rw [List.take_add_one, hk, List.map_append, List.sum_append]
  simp only [Option.toList_some, List.map_cons, List.map_nil, hx, List.sum_cons, List.sum_nil, Int.add_zero]
set_option maxRecDepth 100000 in
set_option maxHeartbeats 2000000 in
theorem rload_any (v hv : Value) (c : Roads) (l : List Int) (w : World) (hb : RoadsB c) (hc : RoadsAt w v c) (hl : IntsAt w hv l) (hs : ∀ n, n ∈ l → 1 ≤ n ∧ n ≤ c.loads.length) (hlen : l.length ≤ 1000) :
    Calls Tryz.prog 62 #[v, hv] w fun e w' => e = .returned (.int .i64 (loadOf c l)) ∧ Ext w w' := by
  obtain ⟨lv, fv, rfl, hll, hff⟩ := hc
  obtain ⟨la, lk, rfl, l1, l2, l3⟩ := hll.open
  obtain ⟨fa, fk, rfl, f1, f2, _⟩ := hff.open
  obtain ⟨a, k0, rfl, h1, h2, h3⟩ := hl.open
  have hx0 : Ext w (w.alloc (boxC c la fa lk fk)) := (Ext.refl w).alloc _
  have HX0 := Lib.hid hx0
  obtain ⟨c0, c1, c2⟩ := boxC_cells (World.alloc_heap_new w (boxC c la fa lk fk))
  have H3 := Lib.hid h3
  have L3 := Lib.hid l3
  have HST := Lib.hid hs
  have HLA := Lib.hid (fun m h => loadAt hb (m := m) h)
  have n2 := hb.n2
  have hmix : Tryz.prog.follows .mixedOrders = true := by kernel_rfl
  clear hll hff h3 l3 hx0 hl hs hb
  go_enter Tryz.func62, Tryz.ntmps62
  go_wp2
  have HW : Hid (w.alloc (boxC c la fa lk fk) = w.alloc (boxC c la fa lk fk)) := Lib.hid rfl
  generalize hW : w.alloc (boxC c la fa lk fk) = W at *
  go_loopw [5, 6] (fun s i wr => ∃ k : Nat, k ≤ l.length ∧ i = .int .i64 k ∧ s = .int .i64 (loadOf c (l.take k)) ∧ (0 ≤ loadOf c (l.take k) ∧ loadOf c (l.take k) ≤ 1000 * k) ∧ Ext W wr) (fun _ i _ => l.length - (intOf i).toNat)
  case atStart => exact ⟨0, Nat.zero_le _, rfl, rfl, by simp [loadOf], Ext.refl _⟩
  case round =>
    obtain ⟨k, hk, rfl, rfl, ⟨s1, s2⟩, hxr⟩ := hrel
    have hxw := HX0.out.trans hxr
    by_cases hlt : k < l.length
    · obtain ⟨b, o, n, rfl, hnk, hcn⟩ := H3.out k hlt
      obtain ⟨q1, q2⟩ := HST.out n (List.mem_of_getElem? hnk.out)
      obtain ⟨m, rfl⟩ : ∃ m : Nat, n = (m : Int) + 1 := ⟨(n - 1).toNat, by omega⟩
      obtain ⟨x, hx1, hx2, hx3, hx4⟩ := HLA.out m (by omega)
      obtain ⟨b', o', y, rfl, hyk, hcy⟩ := L3.out m (by omega)
      have hyx : y = x := by have := hyk.out; rw [hx1] at this; exact (Option.some.inj this).symm
      subst hyx
      have HS := Lib.hid (loadOf_succ hnk.out hx2)
      have d := hxw.cell hcn
      have d' := hxw.cell hcy
      have e0 := hxr.cell c0
      have x1 : decide ((k : Int) < (l.length : Int)) = true := by simpa using hlt
      have x4 : (k : Int) < (l.length : Int) := by omega
      have x7 : (0 : Int) ≤ (k : Int) := by omega
      have x8 : m < c.loads.length := by omega
      have x9 : (m : Int) < (c.loads.length : Int) := by omega
      have x10 : (0 : Int) ≤ (m : Int) := by omega
      have E1 : IntKind.i64.wrap ((m : Int) + 1 - 1) = (m : Int) := by rw [IntWalk.i64_in _ (by omega)]; omega
      clear hcn hcy hx1 hx2
      generalize hss : loadOf c (l.take k) = ss at *
      have E2 : IntKind.i64.wrap (ss + y) = ss + y := IntWalk.i64_in _ (by omega)
      clear hss
      go_upto_region 5 with fail
      go_quiet (fail)
      go_wp2
      go_roundw
      case rel => exact ⟨k + 1, by omega, by go_num, by rw [HS.out] <;> rfl, by rw [HS.out]; omega, hxr.drewN _⟩
      case measure => simp [intOf]; omega
    · have hke : k = l.length := by omega
      have HN : Hid (loadOf c (l.take k) = loadOf c l) := by unfold Hid; rw [List.take_of_length_le (by omega)]
      have x1 : decide ((k : Int) < (l.length : Int)) = false := by simpa using hlt
      clear hke s1 s2
      go_wp2
      go_ret
      exact ⟨by rw [← HN.out] <;> rfl, hxw⟩

theorem legs_succ {c : Roads} {l : List Int} {k : Nat} {n : Int} (hk : l[k]? = some n) : legs c 0 (l.take (k + 1)) = legs c 0 (l.take k) ++ [farOf c (lastOf 0 (l.take k)) n] ∧ lastOf 0 (l.take (k + 1)) = n := by
  rw [List.take_add_one, hk]; simp only [Option.toList_some]; rw [legs_snoc, lastOf_snoc]; exact ⟨rfl, rfl⟩
set_option maxRecDepth 100000 in
set_option maxHeartbeats 4000000 in
theorem rlength_any (v hv : Value) (c : Roads) (l : List Int) (w : World) (hb : RoadsB c) (hc : RoadsAt w v c) (hl : IntsAt w hv l) (hs : ∀ n, n ∈ l → 1 ≤ n ∧ n ≤ c.loads.length) (hlen : l.length ≤ 1000) :
    Calls Tryz.prog 66 #[v, hv] w fun e w' => e = .returned (.int .i64 (lengthOf c l)) ∧ Ext w w' := by
  obtain ⟨lv, fv, rfl, hll, hff⟩ := hc
  obtain ⟨la, lk, rfl, l1, l2, _⟩ := hll.open
  obtain ⟨fa, fk, rfl, f1, f2, f3⟩ := hff.open
  obtain ⟨a, k0, rfl, h1, h2, h3⟩ := hl.open
  have hx0 : Ext w (w.alloc (boxC c la fa lk fk)) := (Ext.refl w).alloc _
  have HX0 := Lib.hid hx0
  obtain ⟨c0, c1, c2⟩ := boxC_cells (World.alloc_heap_new w (boxC c la fa lk fk))
  have H3 := Lib.hid h3
  have F3 := Lib.hid f3
  have HST := Lib.hid hs
  have n2 := hb.n2
  have HA := Lib.hid (fun i j => @farAt c hb i j)
  have HL := Lib.hid (fun k => @lastOf_range c 0 (l.take k) (by omega) (fun n hn => hs n (List.mem_of_mem_take hn)))
  have HR := Lib.hid (fun k => sum_bound (l := legs c 0 (l.take k)) (b := 1000) (legs_range hb 0 (l.take k) (by omega) (fun n hn => hs n (List.mem_of_mem_take hn))))
  have hmix : Tryz.prog.follows .mixedOrders = true := by kernel_rfl
  clear hll hff h3 f3 hx0 hl hs hb
  go_enter Tryz.func66, Tryz.ntmps66
  go_wp2
  have HW : Hid (w.alloc (boxC c la fa lk fk) = w.alloc (boxC c la fa lk fk)) := Lib.hid rfl
  generalize hW : w.alloc (boxC c la fa lk fk) = W at *
  go_loopw [5, 6, 7] (fun s p i wr => ∃ k : Nat, k ≤ l.length ∧ i = .int .i64 k ∧ s = .int .i64 (legs c 0 (l.take k)).sum ∧ p = .int .i64 (lastOf 0 (l.take k)) ∧ Ext W wr) (fun _ _ i _ => l.length - (intOf i).toNat)
  case atStart => exact ⟨0, Nat.zero_le _, rfl, rfl, rfl, Ext.refl _⟩
  case round =>
    obtain ⟨k, hk, rfl, rfl, rfl, hxr⟩ := hrel
    have hxw := HX0.out.trans hxr
    obtain ⟨p1, p2⟩ := HL.out k
    obtain ⟨s1, s2⟩ := HR.out k
    rw [legs_length, List.length_take] at s2
    obtain ⟨p, hp⟩ : ∃ p : Nat, lastOf 0 (l.take k) = (p : Int) := ⟨(lastOf 0 (l.take k)).toNat, by omega⟩
    have hpl : p ≤ c.loads.length := by omega
    have e2 := hxr.cell c2
    by_cases hlt : k < l.length
    · obtain ⟨b, o, n, rfl, hnk, hcn⟩ := H3.out k hlt
      obtain ⟨q1, q2⟩ := HST.out n (List.mem_of_getElem? hnk.out)
      obtain ⟨m, rfl⟩ : ∃ m : Nat, n = (m : Int) := ⟨n.toNat, by omega⟩
      obtain ⟨row, x, r1, r2, r3, r4, r5⟩ := HA.out p m hpl (by omega)
      have hpf : p < c.far.length := (List.getElem?_eq_some_iff.1 r1).1
      obtain ⟨b', o', y, ys, rfl, hyk, hcy, hys⟩ := F3.out p hpf
      have hyr : ys = row := by have := hyk.out; rw [r1] at this; exact (Option.some.inj this).symm
      subst hyr
      obtain ⟨a3, k3, rfl, g1, g2, g3⟩ := hys.open
      have hml : m < ys.length := (List.getElem?_eq_some_iff.1 r2).1
      obtain ⟨b3, o3, z, rfl, hzk, hcz⟩ := g3 m hml
      have hzx : z = x := by have := hzk.out; rw [r2] at this; exact (Option.some.inj this).symm
      subst hzx
      have hsc := legs_succ (c := c) hnk.out
      rw [hp, r3] at hsc
      have HS := Lib.hid hsc
      have d := hxw.cell hcn
      have d' := hxw.cell hcy
      have d3 := hxw.cell hcz
      have x1 : decide ((k : Int) < (l.length : Int)) = true := by simpa using hlt
      have x4 : (k : Int) < (l.length : Int) := by omega
      have x7 : (0 : Int) ≤ (k : Int) := by omega
      have y1 : (p : Int) < (c.far.length : Int) := by omega
      have y2 : (0 : Int) ≤ (p : Int) := by omega
      have y3 : (m : Int) < (ys.length : Int) := by omega
      have y4 : (0 : Int) ≤ (m : Int) := by omega
      rw [hp]
      generalize hss : (legs c 0 (l.take k)).sum = ss at *
      have HSS := Lib.hid hss
      have E2 : IntKind.i64.wrap (ss + z) = ss + z := IntWalk.i64_in _ (by omega)
      clear hcn hcy hcz r1 r2 r3 hp hsc hss hys hyk hzk g3
      go_upto_region 5 with fail
      go_quiet (fail)
      go_wp2
      go_roundw
      case rel => exact ⟨k + 1, by omega, by go_num, by rw [HS.out.1, List.sum_append, HSS.out, List.sum_singleton] <;> rfl, by rw [HS.out.2] <;> rfl, hxr.drewN _⟩
      case measure => simp [intOf]; omega
    · have hke : k = l.length := by omega
      have ht : l.take k = l := List.take_of_length_le (by omega)
      obtain ⟨row, x, r1, r2, r3, r4, r5⟩ := HA.out p 0 hpl (by omega)
      have hpf : p < c.far.length := (List.getElem?_eq_some_iff.1 r1).1
      obtain ⟨b', o', y, ys, rfl, hyk, hcy, hys⟩ := F3.out p hpf
      have hyr : ys = row := by have := hyk.out; rw [r1] at this; exact (Option.some.inj this).symm
      subst hyr
      obtain ⟨a3, k3, rfl, g1, g2, g3⟩ := hys.open
      have hml : 0 < ys.length := (List.getElem?_eq_some_iff.1 r2).1
      obtain ⟨b3, o3, z, rfl, hzk, hcz⟩ := g3 0 hml
      have hzx : z = x := by have := hzk.out; rw [r2] at this; exact (Option.some.inj this).symm
      subst hzx
      rw [ht] at hp
      have HN : Hid (lengthOf c l = (legs c 0 (l.take k)).sum + z) := by
        unfold Hid
        rw [ht, lengthOf, goOf_legs, List.sum_append, List.sum_singleton, hp, ← r3]
        rfl
      have d' := hxw.cell hcy
      have d3 := hxw.cell hcz
      rw [Nat.add_zero] at d3
      have x1 : decide ((k : Int) < (l.length : Int)) = false := by simpa using hlt
      have y1 : (p : Int) < (c.far.length : Int) := by omega
      have y2 : (0 : Int) ≤ (p : Int) := by omega
      have y3 : (0 : Int) < (ys.length : Int) := by omega
      rw [ht, hp]
      rw [ht] at HN s1 s2
      generalize hss : (legs c 0 l).sum = ss at *
      have E2 : IntKind.i64.wrap (ss + z) = ss + z := IntWalk.i64_in _ (by omega)
      clear hcy hcz r1 r2 r3 hp hss hys hyk hzk g3 ht hke
      go_wp2
      go_ret
      exact ⟨by rw [HN.out] <;> rfl, hxw⟩
end Go.Proofs.YtapkbonlijhmjaaGreatDoor
