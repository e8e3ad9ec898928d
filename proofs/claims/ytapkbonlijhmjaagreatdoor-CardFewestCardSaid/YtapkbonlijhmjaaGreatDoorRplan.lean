/- The reference's parts: all ways to part houses. -/
import Derived.Test.YtapkbonlijhmjaaGreatDoorDeep
import Derived.Test.YtapkbonlijhmjaaGreatDoorRorders
import Derived.Test.YtapkbonlijhmjaaGreatDoorPlanp
import Derived.Test.YtapkbonlijhmjaaGreatDoorSearchr
import Derived.Test.YtapkbonlijhmjaaGreatDoorBefore
import Derived.Test.YtapkbonlijhmjaaGreatDoorRtour
import Derived.Test.YtapkbonlijhmjaaGreatDoorRbetter
namespace Go.Proofs.YtapkbonlijhmjaaGreatDoor
open Go.RowKit

theorem parts_first (w : World) : PlansAt (w.alloc (.cells #[.slice none 0 0] 23)) (.slice (some ⟨w.heap.size, 0, none⟩) 1 1) (waysUp 0) := by
  refine PlansOwn.rest (base := w.heap.size) ⟨[.slice none 0 0], rfl, World.ownsRow_lit w #[.slice none 0 0] 1 (Nat.le_refl _) one_le_maxLen rfl, fun i u xss hu hx => ?_⟩
  cases i with
  | zero =>
    simp [waysUp, partsUp] at hu hx
    subst hu; subst hx
    exact ListsOwn.nil _ _
  | succ i => simp at hu
set_option maxRecDepth 100000 in
set_option maxHeartbeats 16000000 in
theorem rparts_any (hv : Value) (n : Nat) (w : World) (hn : n ≤ 5) (hl : IntsAt w hv (upto n)) :
    Calls Tryz.prog 61 #[hv] w fun e w' => ∃ v1, e = .returned v1 ∧ Ext w w' ∧ PlansAt w' v1 (waysUp n) := by
  obtain ⟨a, c, hv', h1, h2, h3⟩ := hl.open
  rw [upto_len] at hv' h1 h3
  subst hv'
  have H3 : Hid (∀ W i, Ext w W → i < n → ∃ b o, a = some ⟨b, o, none⟩ ∧ W.cell? ⟨b, o + i, none⟩ = some (.int .i64 ((i : Int) + 1))) := fun W i hx hi => by
    obtain ⟨b, o, y, rfl, hy, hc⟩ := h3 i hi
    have := hy.out
    rw [upto_at hi] at this
    cases this
    exact ⟨b, o, rfl, hx.cell hc⟩
  have HF := Lib.hid (parts_first w)
  have hmix : Tryz.prog.follows .mixedOrders = true := by kernel_rfl
  clear h3 hl
  go_enter Tryz.func61, Tryz.ntmps61
  go_wp2
  go_loopw [3, 4] (fun out i wr => ∃ k : Nat, k ≤ n ∧ i = .int .i64 k ∧ PlansAt wr out (waysUp k) ∧ Ext w wr) (fun _ i _ => n - (intOf i).toNat)
  case atStart => exact ⟨0, Nat.zero_le _, rfl, HF.out, (Ext.refl _).alloc _⟩
  case round =>
    obtain ⟨i, hi, rfl, hP, hxi⟩ := hrel
    by_cases hlt : i < n
    · have x1 : decide ((i : Int) < (n : Int)) = true := by simpa using hlt
      have HP := Lib.hid hP
      obtain ⟨oa, oc, rfl, o1, o2, o3⟩ := hP.open
      have O3 := Lib.hid o3
      have HBD := Lib.hid (waysUp_bd i (by omega))
      clear hP o3
      go_wp2
      clear x1
      obtain ⟨wa, rfl⟩ : ∃ wa : World, wa = wr := ⟨_, rfl⟩
      go_loopw [5, 6] (fun next q wr => ∃ k : Nat, k ≤ (waysUp i).length ∧ q = .int .i64 k ∧ PlansOwn wr wa.heap.size next (midWay i k 0) ∧ Ext wa wr) (fun _ q _ => (waysUp i).length - (intOf q).toNat)
      case atStart => exact ⟨0, Nat.zero_le _, rfl, by rw [midWay_start]; exact PlansOwn.nil _ _, Ext.refl _⟩
      case round =>
        obtain ⟨k, hk, rfl, hN, hxk⟩ := hrel
        by_cases hlk : k < (waysUp i).length
        · obtain ⟨b1, o1', xv, xss, rfl, hxs, hcx, hrows⟩ := O3.out k hlk
          have HXS := hxs
          have hbd := HBD.out.2 xss (List.mem_of_getElem? hxs.out)
          obtain ⟨hb1, hb2⟩ := hbd
          have HB2 := Lib.hid hb2
          obtain ⟨xa, xc, rfl, _, _, r3⟩ := hrows.open
          have R3 := Lib.hid r3
          have HCX := Lib.hid hcx
          have x1 : decide ((k : Int) < ((waysUp i).length : Int)) = true := by simpa using hlk
          have x2 : (k : Int) < ((waysUp i).length : Int) := by omega
          have x3 : (0 : Int) ≤ (k : Int) := by omega
          have HN := Lib.hid hN
          clear hN hcx r3 hb2 hrows
          go_wp2
          clear x1
          obtain ⟨wb, rfl⟩ : ∃ wb : World, wb = wr := ⟨_, rfl⟩
          go_loopw [5, 7] (fun next q wr => ∃ g : Nat, g ≤ xss.length + 1 ∧ q = .int .i64 g ∧ PlansOwn wr wa.heap.size next (midWay i k g) ∧ Ext wa wr) (fun _ q _ => xss.length + 1 - (intOf q).toNat)
          case atStart => exact ⟨0, Nat.zero_le _, rfl, HN.out, hxk⟩
          case round =>
            clear HN
            obtain ⟨g, hg, rfl, hN, hxg⟩ := hrel
            have d0 := hxg.cell HCX.out
            by_cases hlg : g ≤ xss.length
            · have x1 : decide ((g : Int) ≤ (xss.length : Int)) = true := by simpa using hlg
              have HN := Lib.hid hN
              have hag := hxg.size
              clear hN
              go_wp2
              clear x1
              obtain ⟨wc, rfl⟩ : ∃ wc : World, wc = wr := ⟨_, rfl⟩
              clear d0
              go_loopw [8, 9] (fun p q wr => ∃ j : Nat, j ≤ xss.length ∧ q = .int .i64 j ∧ ListsSep wr wc.heap.size p (xss.take j) ∧ Ext wc wr) (fun _ q _ => xss.length - (intOf q).toNat)
              case atStart => exact ⟨0, Nat.zero_le _, rfl, by rw [List.take_zero]; exact ListsSep.nil _ _, Ext.refl _⟩
              case round =>
                obtain ⟨j, hj, rfl, hSP, hxj⟩ := hrel
                have d0 := (hxg.trans hxj).cell HCX.out
                by_cases hlj : j < xss.length
                · obtain ⟨b2, o2', yv, ys, rfl, hys, hcy, hyi⟩ := R3.out j hlj
                  obtain ⟨hy1, hy2⟩ := HB2.out ys (List.mem_of_getElem? hys.out)
                  have hyi' := hyi.ext (hxg.trans hxj)
                  have d1 := (hxg.trans hxj).cell hcy
                  have HYR : Hid (RowAt wr yv ys.length (ys.map (.int .i64))) := hyi'
                  obtain ⟨ya, yc, rfl, _⟩ := hyi'.open
                  obtain ⟨vals, s1, s2, s3, s4⟩ := hSP
                  have htl : (xss.take j).length = j := by rw [List.length_take]; omega
                  rw [htl] at s2
                  have HSV := Lib.hid (And.intro s1 (And.intro s2 (And.intro s3 s4)))
                  have HTK : Hid (xss.take (j + 1) = xss.take j ++ [ys]) := by unfold Hid; rw [List.take_add_one, hys.out]; rfl
                  have HTL := Lib.hid htl
                  have x1 : decide ((j : Int) < (xss.length : Int)) = true := by simpa using hlj
                  have x4 : (j : Int) < (xss.length : Int) := by omega
                  have x5 : (0 : Int) ≤ (j : Int) := by omega
                  have hs1 : 0 + ys.length ≤ maxLen ∧ (0 + ys.length) * 8 ≤ 140737488355328 := by unfold maxLen; omega
                  have HS1 := Lib.hid hs1
                  have hs2 : j + 1 ≤ maxLen ∧ (j + 1) * 24 ≤ 140737488355328 := by unfold maxLen; omega
                  have HS2 := Lib.hid hs2
                  have hpos : ∃ m, ys.length = m + 1 := by
                    cases ys with
                    | nil => exact absurd rfl hy2
                    | cons y l => exact ⟨l.length, by simp⟩
                  have HPOS := Lib.hid hpos
                  have hzj := hxj.size
                  have HB5 : Hid (∀ (i : Nat) (z : Value), vals[i]? = some z → ∀ b, z.ownBlock = some b → b < wr.heap.size) := fun i z hz b hb => by
                    have hi := (List.getElem?_eq_some_iff.1 hz).1
                    have hx2 : (xss.take j)[i]? = some ((xss.take j)[i]'(by omega)) := List.getElem?_eq_getElem (by omega)
                    exact (World.ownsRow.lt (s3 i z _ hz hx2) b hb).2
                  clear hs1 hs2 hpos s1 s2 s3 s4 hyi hyi' hcy htl hy1 hy2
                  go_wp2_with (first
                    | (at_builtin; refine wpList_append_row E_ints rfl _ _ rfl wr.heap.size rfl (World.ownsRow_nil _ _ _ _) rfl HYR.out (by simp) (ints_one _) ?_ HS1.out.1 HS1.out.2 (Nat.le_refl _); intro v7 w7 hown7 hgr7 _; have hx7 : Ext wr w7 := (Ext.refl _).grown hgr7 (fun g hg => by cases hg); rw [Nat.zero_add, List.nil_append] at hown7; have hform : ∃ g cap, v7 = .slice (some ⟨g, 0, none⟩) ys.length cap := (by obtain ⟨m, hm⟩ := HPOS.out; rw [hm] at hown7 ⊢; exact owns_succ hown7); obtain ⟨g7, cap7, hv7⟩ := hform; subst hv7; have HO7 := Lib.hid hown7; clear hown7 hgr7)
                    | (at_builtin; refine wpList_push_at E_rows rfl _ _ rfl wc.heap.size rfl (owns_ext HSV.out.2.1 hx7) rfl rfl rfl (by simp [Value.oneCell']) ?_ HS2.out.1 HS2.out.2 (hxj.trans hx7).size; intro g8 cap8 w8 hown8 hext8 hg8 hloc8; have hx8 : Ext wc w8 := hext8 wc (hxj.trans hx7) (Nat.le_refl _); have HP8 := Lib.hid (sep_push (S := wr.heap.size) (HSV.out.1) (by rw [HTL.out]; exact owns_ext HSV.out.2.1 hx7) (fun i u xs hu hx => owns_ext (HSV.out.2.2.1 i u xs hu hx) hx7) HSV.out.2.2.2 HB5.out hzj HO7.out (by rw [HTL.out]; exact hown8) hg8); clear hown8 hext8 hg8 hloc8))
                  refine ⟨⟨j + 1, by omega, by go_num, ?_, hx8⟩, by simp [intOf]; omega⟩
                  have := HP8.out
                  rw [← HTK.out, HTL.out] at this
                  exact this
                · have hje : j = xss.length := by omega
                  have htk : xss.take j = xss := List.take_of_length_le (by omega)
                  rw [htk] at hSP
                  have x1 : decide ((j : Int) < (xss.length : Int)) = false := by simpa using hlj
                  obtain ⟨vals, s1, s2, s3, s4⟩ := hSP
                  have hxw : Ext w wr := hxi.trans (hxg.trans hxj)
                  obtain ⟨lb, lo, rfl, hlc⟩ := H3.out wr i hxw hlt
                  have hzc := hxj.size
                  have y1 : (i : Int) < (n : Int) := by omega
                  have y2 : (0 : Int) ≤ (i : Int) := by omega
                  have y3 : (0 : Int) ≤ (g : Int) := by omega
                  have hs3 : (midWay i k g).length + 1 ≤ maxLen ∧ ((midWay i k g).length + 1) * 24 ≤ 140737488355328 := by
                    have := midWay_len (i := i) (k := k) (g := g) (by omega) hlk (by omega)
                    unfold maxLen; omega
                  have HS3 := Lib.hid hs3
                  have HGD : Hid ((waysUp i).getD k [] = xss) := by unfold Hid; rw [List.getD_eq_getElem?_getD, HXS.out]; rfl
                  have HMS := Lib.hid (midWay_succ i k g)
                  have hgl : g < xss.length ∨ g = xss.length := by omega
                  clear hje htk hs3 HP HF
                  rcases hgl with hgl | hgl
                  · have t1 : ((g : Int) == (xss.length : Int)) = false := by rw [beq_eq_false_iff_ne]; omega
                    have t1n : (g == xss.length) = false := by rw [beq_eq_false_iff_ne]; omega
                    have hpf : ∃ pb pc, u8 = .slice (some ⟨pb, 0, none⟩) xss.length pc := by
                      obtain ⟨m, hm⟩ : ∃ m, xss.length = m + 1 := ⟨xss.length - 1, by omega⟩
                      rw [hm] at s2 ⊢
                      exact owns_succ s2
                    obtain ⟨pb, pc, rfl⟩ := hpf
                    obtain ⟨r, hr⟩ : ∃ r, xss[g]? = some r := ⟨_, List.getElem?_eq_getElem hgl⟩
                    obtain ⟨uu, huu⟩ : ∃ u, vals[g]? = some u := ⟨_, List.getElem?_eq_getElem (by omega)⟩
                    have hYS : nextAt xss g ((i : Int) + 1) = xss.set g (r ++ [(i : Int) + 1]) := by rw [nextAt_lt hgl, List.getD_eq_getElem?_getD, hr]; rfl
                    have HYS := Lib.hid hYS
                    have hrl : r.length ≤ 5 := by have := (HB2.out r (List.mem_of_getElem? hr)).1; omega
                    obtain ⟨N, hN⟩ : ∃ N, N = xss.length := ⟨_, rfl⟩
                    have hgN : g < N := by omega
                    rw [← hN] at s2 x1 t1 t1n ⊢
                    have y4 : (g : Int) < (N : Int) := by omega
                    clear hgl hYS
                    go_wp2
                    clear x1 t1 t1n
                    have huo := s3 g uu r huu hr
                    obtain ⟨ua, uc, e, _⟩ := (RowAt.of_owns huo)
                    subst e
                    have q0 : wr.cell? ⟨pb, g, none⟩ = some (.slice ua r.length uc) := by rw [s2.cellAt g (by omega), huu]
                    have hs5 : r.length + 1 ≤ maxLen ∧ (r.length + 1) * 8 ≤ 140737488355328 := by unfold maxLen; omega
                    have HS5 := Lib.hid hs5
                    have HSW := Lib.hid (And.intro s1 (And.intro s2 (And.intro s3 s4)))
                    have HUO := Lib.hid huo
                    have HUU := Lib.hid huu
                    have HRR := Lib.hid hr
                    have HNN := Lib.hid hN
                    have hpb : wc.heap.size ≤ pb := (World.ownsRow.lt s2 pb rfl).1
                    have hD : Ext wr (wr.drew.alloc (.cells #[.int .i64 ((i : Int) + 1)] 3)) := ((Ext.refl wr).drew).alloc _
                    have HD := Lib.hid hD
                    have hqa := hD.cell q0
                    have hla := hD.cell hlc
                    clear s1 s2 s3 s4 huo huu hr hN hs5 hD
                    go_upto_region 19 with fail
                    refine wp_region_noPanic ?_
                    refine wp_region_any (by kernel_rfl) (wpAny_of_till (z := 13) (S := (fun w' => w'.cell? ⟨pb, g, none⟩ = some (.slice ua r.length uc) ∧ w'.cell? ⟨lb, lo + i, none⟩ = some (.int .i64 ((i : Int) + 1)))) _ _ _ _ ?_)
                    change wpTill _ _ _ _ _ _ _ _ _ wr.drew
                    have hS0 := (show wr.drew.cell? ⟨pb, g, none⟩ = some (.slice ua r.length uc) ∧ wr.drew.cell? ⟨lb, lo + i, none⟩ = some (.int .i64 ((i : Int) + 1)) from ⟨q0, hlc⟩)
                    refine till_at (i := 0) (d := some 59) (v := ?_) (by kernel_rfl) (by kernel_rfl) (by kernel_rfl) (by kernel_rfl) (by kernel_rfl) (fun _ _ _ h => h) (fun o ho => ?_) hS0 ?_
                    rotate_left
                    · simp only [List.getElem?_toArray, List.getElem?_cons_zero, Option.some.injEq] at ho
                      subst ho
                      refine Or.inl ⟨by rfl, fun w' hSw => ?_⟩
                      obtain ⟨hSw0, hSw1⟩ := hSw
                      go_simp
                      try with_reducible rfl
                    try simp only [Act.put, List.setIfInBounds_toArray, List.set_cons_zero, List.set_cons_succ]
                    refine till_at (i := 1) (d := some 60) (v := ?_) (by kernel_rfl) (by kernel_rfl) (by kernel_rfl) (by kernel_rfl) (by kernel_rfl) (fun _ _ _ h => h) (fun o ho => ?_) hS0 ?_
                    rotate_left
                    · simp only [List.getElem?_toArray, List.getElem?_cons_zero, List.getElem?_cons_succ, Option.some.injEq] at ho
                      subst ho
                      refine Or.inl ⟨by rfl, fun w' hSw => ?_⟩
                      obtain ⟨hSw0, hSw1⟩ := hSw
                      go_simp
                      try with_reducible rfl
                    try simp only [Act.put, List.setIfInBounds_toArray, List.set_cons_zero, List.set_cons_succ]
                    refine till_at (i := 2) (d := some 61) (v := ?_) (by kernel_rfl) (by kernel_rfl) (by kernel_rfl) (by kernel_rfl) (by kernel_rfl) (fun _ _ _ h => h) (fun o ho => ?_) hS0 ?_
                    rotate_left
                    · simp only [List.getElem?_toArray, List.getElem?_cons_zero, List.getElem?_cons_succ, Option.some.injEq] at ho
                      subst ho
                      refine Or.inl ⟨by rfl, fun w' hSw => ?_⟩
                      obtain ⟨hSw0, hSw1⟩ := hSw
                      go_simp
                      try with_reducible rfl
                    try simp only [Act.put, List.setIfInBounds_toArray, List.set_cons_zero, List.set_cons_succ]
                    refine till_at (i := 3) (d := some 62) (v := ?_) (by kernel_rfl) (by kernel_rfl) (by kernel_rfl) (by kernel_rfl) (by kernel_rfl) (fun _ _ _ h => h) (fun o ho => ?_) hS0 ?_
                    rotate_left
                    · simp only [List.getElem?_toArray, List.getElem?_cons_zero, List.getElem?_cons_succ, Option.some.injEq] at ho
                      subst ho
                      refine Or.inl ⟨by rfl, fun w' hSw => ?_⟩
                      obtain ⟨hSw0, hSw1⟩ := hSw
                      go_simp
                      try with_reducible rfl
                    try simp only [Act.put, List.setIfInBounds_toArray, List.set_cons_zero, List.set_cons_succ]
                    refine till_at (i := 4) (d := some 63) (v := ?_) (by kernel_rfl) (by kernel_rfl) (by kernel_rfl) (by kernel_rfl) (by kernel_rfl) (fun _ _ _ h => h) (fun o ho => ?_) hS0 ?_
                    rotate_left
                    · simp only [List.getElem?_toArray, List.getElem?_cons_zero, List.getElem?_cons_succ, Option.some.injEq] at ho
                      subst ho
                      refine Or.inl ⟨by rfl, fun w' hSw => ?_⟩
                      obtain ⟨hSw0, hSw1⟩ := hSw
                      go_simp
                      try with_reducible rfl
                    try simp only [Act.put, List.setIfInBounds_toArray, List.set_cons_zero, List.set_cons_succ]
                    refine till_at (i := 5) (d := some 64) (v := ?_) (by kernel_rfl) (by kernel_rfl) (by kernel_rfl) (by kernel_rfl) (by kernel_rfl) (fun _ _ _ h => h) (fun o ho => ?_) hS0 ?_
                    rotate_left
                    · simp only [List.getElem?_toArray, List.getElem?_cons_zero, List.getElem?_cons_succ, Option.some.injEq] at ho
                      subst ho
                      refine Or.inl ⟨by rfl, fun w' hSw => ?_⟩
                      obtain ⟨hSw0, hSw1⟩ := hSw
                      go_simp
                      try with_reducible rfl
                    try simp only [Act.put, List.setIfInBounds_toArray, List.set_cons_zero, List.set_cons_succ]
                    refine till_at (i := 6) (d := some 65) (v := ?_) (by kernel_rfl) (by kernel_rfl) (by kernel_rfl) (by kernel_rfl) (by kernel_rfl) (fun _ _ _ h => h) (fun o ho => ?_) hS0 ?_
                    rotate_left
                    · simp only [List.getElem?_toArray, List.getElem?_cons_zero, List.getElem?_cons_succ, Option.some.injEq] at ho
                      subst ho
                      refine Or.inl ⟨by rfl, fun w' hSw => ?_⟩
                      obtain ⟨hSw0, hSw1⟩ := hSw
                      go_simp
                      try with_reducible rfl
                    try simp only [Act.put, List.setIfInBounds_toArray, List.set_cons_zero, List.set_cons_succ]
                    refine till_at (i := 7) (d := some 66) (v := ?_) (by kernel_rfl) (by kernel_rfl) (by kernel_rfl) (by kernel_rfl) (by kernel_rfl) (fun _ _ _ h => h) (fun o ho => ?_) hS0 ?_
                    rotate_left
                    · simp only [List.getElem?_toArray, List.getElem?_cons_zero, List.getElem?_cons_succ, Option.some.injEq] at ho
                      subst ho
                      refine Or.inl ⟨by rfl, fun w' hSw => ?_⟩
                      obtain ⟨hSw0, hSw1⟩ := hSw
                      go_simp
                      try with_reducible rfl
                    try simp only [Act.put, List.setIfInBounds_toArray, List.set_cons_zero, List.set_cons_succ]
                    refine till_at (i := 8) (d := some 67) (v := ?_) (by kernel_rfl) (by kernel_rfl) (by kernel_rfl) (by kernel_rfl) (by kernel_rfl) (fun _ _ _ h => h) (fun o ho => ?_) hS0 ?_
                    rotate_left
                    · simp only [List.getElem?_toArray, List.getElem?_cons_zero, List.getElem?_cons_succ, Option.some.injEq] at ho
                      subst ho
                      refine Or.inl ⟨by rfl, fun w' hSw => ?_⟩
                      obtain ⟨hSw0, hSw1⟩ := hSw
                      go_simp
                      try with_reducible rfl
                    try simp only [Act.put, List.setIfInBounds_toArray, List.set_cons_zero, List.set_cons_succ]
                    refine till_at (i := 9) (d := some 68) (v := ?_) (by kernel_rfl) (by kernel_rfl) (by kernel_rfl) (by kernel_rfl) (by kernel_rfl) (fun _ _ _ h => h) (fun o ho => ?_) hS0 ?_
                    rotate_left
                    · simp only [List.getElem?_toArray, List.getElem?_cons_zero, List.getElem?_cons_succ, Option.some.injEq] at ho
                      subst ho
                      refine Or.inl ⟨by rfl, fun w' hSw => ?_⟩
                      obtain ⟨hSw0, hSw1⟩ := hSw
                      go_simp
                      try with_reducible rfl
                    try simp only [Act.put, List.setIfInBounds_toArray, List.set_cons_zero, List.set_cons_succ]
                    refine till_step (i := 10) (by kernel_rfl) (by kernel_rfl) (fun o ho K' hK => ?_)
                    simp only [List.getElem?_toArray, List.getElem?_cons_zero, List.getElem?_cons_succ, Option.some.injEq] at ho
                    subst ho
                    go_simp
                    have hS10 := And.intro hqa hla
                    refine hK.out _ _ (fun _ => hS10) (fun _ => ?_)
                    clear hK K'
                    try simp only [Act.put, List.setIfInBounds_toArray, List.set_cons_zero, List.set_cons_succ]
                    refine till_step (i := 11) (by kernel_rfl) (by kernel_rfl) (fun o ho K' hK => ?_)
                    simp only [List.getElem?_toArray, List.getElem?_cons_zero, List.getElem?_cons_succ, Option.some.injEq] at ho
                    subst ho
                    refine step_push_at E_ints (by rfl) _ _ (by rfl) wc.heap.size (by rfl) (owns_ext HUO.out ((Ext.refl wr).drew)) (by rfl) (by rfl) (by rfl) (by simp [Value.oneCell']) ?_ HS5.out.1 HS5.out.2 hzc
                    intro g9 cap9 w9 hown9 hg9 hloc9
                    have hx9 : Ext wc w9 := (hxj.trans HD.out).grown hg9 (fun b hb => owns_block HUO.out b hb)
                    obtain ⟨hL9, hc9, hf9⟩ := sep_grow (xss := xss) HNN.out HSW.out.1 (owns_ext HSW.out.2.1 HD.out) (fun i u xs hu hx => owns_ext (HSW.out.2.2.1 i u xs hu hx) HD.out) HSW.out.2.2.2 HUU.out HRR.out hown9 hg9
                    have HL9 := Lib.hid hL9
                    have hl9 : w9.cell? ⟨lb, lo + i, none⟩ = some (.int .i64 ((i : Int) + 1)) := by
                      obtain ⟨lb', lo', e, h⟩ := H3.out w9 i ((hxi.trans hxg).trans hx9) hlt
                      cases e; exact h
                    clear hL9 hown9 hg9 hloc9
                    have hS11 := And.intro hc9 hl9
                    refine hK.out _ _ (fun _ => hS11) (fun _ => ?_)
                    clear hK K'
                    try simp only [Act.put, List.setIfInBounds_toArray, List.set_cons_zero, List.set_cons_succ]
                    refine till_at (i := 12) (d := some 71) (v := ?_) (by kernel_rfl) (by kernel_rfl) (by kernel_rfl) (by kernel_rfl) (by kernel_rfl) (fun _ _ _ h => h) (fun o ho => ?_) hS11 ?_
                    rotate_left
                    · simp only [List.getElem?_toArray, List.getElem?_cons_zero, List.getElem?_cons_succ, Option.some.injEq] at ho
                      subst ho
                      refine Or.inl ⟨by rfl, fun w' hSw => ?_⟩
                      obtain ⟨hSw0, hSw1⟩ := hSw
                      go_simp
                      try with_reducible rfl
                    try simp only [Act.put, List.setIfInBounds_toArray, List.set_cons_zero, List.set_cons_succ]
                    refine till_step (i := 13) (by kernel_rfl) (by kernel_rfl) (fun o ho K' hK => ?_)
                    simp only [List.getElem?_toArray, List.getElem?_cons_zero, List.getElem?_cons_succ, Option.some.injEq] at ho
                    subst ho
                    go_simp
                    refine hK.out _ _ (fun h => absurd rfl h) (fun _ => ?_)
                    clear hK K'
                    try simp only [Act.put, List.setIfInBounds_toArray, List.set_cons_zero, List.set_cons_succ]
                    refine till_done (by kernel_rfl) ?_ _
                    refine NoPanic.normal ?_
                    try simp only [Act.put, List.setIfInBounds_toArray, List.set_cons_zero, List.set_cons_succ]
                    have hx10 : Ext wc (w9.setCell ⟨pb, g, none⟩ (.slice (some ⟨g9, 0, none⟩) (r.length + 1) cap9)) := hx9.setCell (p := ⟨pb, g, none⟩) hpb _
                    have HX10 := Lib.hid hx10
                    have HNX := Lib.hid (HN.out.ext hx10)
                    have hz10 := (hxg.trans hx10).size
                    generalize hw10 : w9.setCell ⟨pb, g, none⟩ (.slice (some ⟨g9, 0, none⟩) (r.length + 1) cap9) = w10 at *
                    clear hw10 hc9 hf9 hl9 hx9 q0 hlc hqa hla
                    obtain ⟨nvals, n1, n2, n3⟩ := HNX.out
                    have HNV := Lib.hid (And.intro n1 (And.intro n2 n3))
                    clear n1 n2 n3
                    go_wp2_with (at_builtin; refine wpList_push_at E_plans rfl _ _ rfl wa.heap.size rfl HNV.out.2.1 rfl rfl rfl (by simp [Value.oneCell']) ?_ HS3.out.1 HS3.out.2 hz10; intro g11 cap11 w11 hown11 hext11 hg11 hloc11; have hx11 : Ext wa w11 := hext11 wa (hxg.trans HX10.out) (Nat.le_refl _); have HP11 := Lib.hid (plans_push HNV.out.1 HNV.out.2.1 HNV.out.2.2 (HL9.out.lower hag) hown11 hg11); clear hown11 hext11 hg11 hloc11)
                    refine ⟨⟨g + 1, by omega, by go_num, ?_, hx11⟩, by simp [intOf]; omega⟩
                    rw [HMS.out, HGD.out, HYS.out]
                    exact HP11.out
                  · have t1 : ((g : Int) == (xss.length : Int)) = true := by rw [beq_iff_eq]; omega
                    have t1n : (g == xss.length) = true := by rw [beq_iff_eq]; omega
                    have hpf : ∃ pa pc, u8 = .slice pa xss.length pc := by
                      obtain ⟨pa, pc, e, _⟩ := RowAt.of_owns s2
                      exact ⟨pa, pc, e⟩
                    obtain ⟨pa, pc, rfl⟩ := hpf
                    have hs4 : xss.length + 1 ≤ maxLen ∧ (xss.length + 1) * 24 ≤ 140737488355328 := by unfold maxLen; omega
                    have HS4 := Lib.hid hs4
                    have HSV := Lib.hid (And.intro s1 (And.intro s2 (And.intro s3 s4)))
                    have HB5 : Hid (∀ (i : Nat) (z : Value), vals[i]? = some z → ∀ b, z.ownBlock = some b → b < wr.heap.size) := fun i z hz b hb => by
                      have hi := (List.getElem?_eq_some_iff.1 hz).1
                      have hx2 : xss[i]? = some (xss[i]'(by omega)) := List.getElem?_eq_getElem (by omega)
                      exact (World.ownsRow.lt (s3 i z _ hz hx2) b hb).2
                    have HGL := Lib.hid hgl
                    clear s1 s2 s3 s4 hs4 hgl
                    go_wp2_with (at_builtin; refine wpList_push_at E_rows rfl _ _ rfl wc.heap.size rfl HSV.out.2.1 rfl rfl rfl (by simp [Value.oneCell']) ?_ HS4.out.1 HS4.out.2 hzc; intro pb pc2 w8 hown8 hext8 hg8 hloc8; have hx8 : Ext wc w8 := hext8 wc hxj (Nat.le_refl _); have HP8 := Lib.hid (sep_push (xs := []) (S := wr.heap.size) HSV.out.1 HSV.out.2.1 HSV.out.2.2.1 HSV.out.2.2.2 HB5.out hzc (World.ownsRow_nil _ _ _ _) hown8 hg8); clear hown8 hext8 hg8 hloc8)
                    clear x1 t1 t1n hxj hxw hzc
                    have hgl : g = xss.length := HGL.out
                    obtain ⟨wr, rfl⟩ : ∃ wr : World, wr = w8 := ⟨_, rfl⟩
                    have hxj := hx8
                    have hzc := hxj.size
                    have hxw : Ext w wr := hxi.trans (hxg.trans hxj)
                    obtain ⟨vals, s1, s2, s3, s4⟩ := HP8.out
                    have hlc : wr.cell? ⟨lb, lo + i, none⟩ = some (.int .i64 ((i : Int) + 1)) := by
                      obtain ⟨lb', lo', e, h⟩ := H3.out wr i hxw hlt
                      cases e; exact h
                    obtain ⟨r, hr⟩ : ∃ r, (xss ++ [[]])[g]? = some r ∧ r = [] := ⟨[], by rw [hgl]; simp, rfl⟩
                    obtain ⟨hr, hr0⟩ := hr
                    obtain ⟨uu, huu⟩ : ∃ u, vals[g]? = some u := ⟨_, List.getElem?_eq_getElem (by rw [s1, hgl]; simp)⟩
                    have hYS : nextAt xss g ((i : Int) + 1) = (xss ++ [[]]).set g (r ++ [(i : Int) + 1]) := by rw [hgl, nextAt_end, hr0, List.set_append_right _ _ (Nat.le_refl _)]; simp
                    have HYS := Lib.hid hYS
                    have hrl : r.length ≤ 5 := by rw [hr0]; simp
                    obtain ⟨N, hN0⟩ : ∃ N, N = xss.length + 1 := ⟨_, rfl⟩
                    have hgN : g < N := by omega
                    have hl2 : (xss ++ [[]]).length = N := by rw [hN0]; simp
                    rw [hl2, ← hN0] at s2
                    rw [← hN0]
                    have y4 : (g : Int) < (N : Int) := by omega
                    have hN : N = (xss ++ [[]]).length := hl2.symm
                    clear hYS hr0 HP8 HSV hl2 hN0 hgl
                    generalize hXX : xss ++ [[]] = XX at *
                    have huo := s3 g uu r huu hr
                    obtain ⟨ua, uc, e, _⟩ := (RowAt.of_owns huo)
                    subst e
                    have q0 : wr.cell? ⟨pb, g, none⟩ = some (.slice ua r.length uc) := by rw [s2.cellAt g (by omega), huu]
                    have hs5 : r.length + 1 ≤ maxLen ∧ (r.length + 1) * 8 ≤ 140737488355328 := by unfold maxLen; omega
                    have HS5 := Lib.hid hs5
                    have HSW := Lib.hid (And.intro s1 (And.intro s2 (And.intro s3 s4)))
                    have HUO := Lib.hid huo
                    have HUU := Lib.hid huu
                    have HRR := Lib.hid hr
                    have HNN := Lib.hid hN
                    have hpb : wc.heap.size ≤ pb := (World.ownsRow.lt s2 pb rfl).1
                    have hD : Ext wr (wr.drew.alloc (.cells #[.int .i64 ((i : Int) + 1)] 3)) := ((Ext.refl wr).drew).alloc _
                    have HD := Lib.hid hD
                    have hqa := hD.cell q0
                    have hla := hD.cell hlc
                    clear s1 s2 s3 s4 huo huu hr hN hs5 hD
                    go_upto_region 19 with fail
                    refine wp_region_noPanic ?_
                    refine wp_region_any (by kernel_rfl) (wpAny_of_till (z := 13) (S := (fun w' => w'.cell? ⟨pb, g, none⟩ = some (.slice ua r.length uc) ∧ w'.cell? ⟨lb, lo + i, none⟩ = some (.int .i64 ((i : Int) + 1)))) _ _ _ _ ?_)
                    change wpTill _ _ _ _ _ _ _ _ _ wr.drew
                    have hS0 := (show wr.drew.cell? ⟨pb, g, none⟩ = some (.slice ua r.length uc) ∧ wr.drew.cell? ⟨lb, lo + i, none⟩ = some (.int .i64 ((i : Int) + 1)) from ⟨q0, hlc⟩)
                    refine till_at (i := 0) (d := some 59) (v := ?_) (by kernel_rfl) (by kernel_rfl) (by kernel_rfl) (by kernel_rfl) (by kernel_rfl) (fun _ _ _ h => h) (fun o ho => ?_) hS0 ?_
                    rotate_left
                    · simp only [List.getElem?_toArray, List.getElem?_cons_zero, Option.some.injEq] at ho
                      subst ho
                      refine Or.inl ⟨by rfl, fun w' hSw => ?_⟩
                      obtain ⟨hSw0, hSw1⟩ := hSw
                      go_simp
                      try with_reducible rfl
                    try simp only [Act.put, List.setIfInBounds_toArray, List.set_cons_zero, List.set_cons_succ]
                    refine till_at (i := 1) (d := some 60) (v := ?_) (by kernel_rfl) (by kernel_rfl) (by kernel_rfl) (by kernel_rfl) (by kernel_rfl) (fun _ _ _ h => h) (fun o ho => ?_) hS0 ?_
                    rotate_left
                    · simp only [List.getElem?_toArray, List.getElem?_cons_zero, List.getElem?_cons_succ, Option.some.injEq] at ho
                      subst ho
                      refine Or.inl ⟨by rfl, fun w' hSw => ?_⟩
                      obtain ⟨hSw0, hSw1⟩ := hSw
                      go_simp
                      try with_reducible rfl
                    try simp only [Act.put, List.setIfInBounds_toArray, List.set_cons_zero, List.set_cons_succ]
                    refine till_at (i := 2) (d := some 61) (v := ?_) (by kernel_rfl) (by kernel_rfl) (by kernel_rfl) (by kernel_rfl) (by kernel_rfl) (fun _ _ _ h => h) (fun o ho => ?_) hS0 ?_
                    rotate_left
                    · simp only [List.getElem?_toArray, List.getElem?_cons_zero, List.getElem?_cons_succ, Option.some.injEq] at ho
                      subst ho
                      refine Or.inl ⟨by rfl, fun w' hSw => ?_⟩
                      obtain ⟨hSw0, hSw1⟩ := hSw
                      go_simp
                      try with_reducible rfl
                    try simp only [Act.put, List.setIfInBounds_toArray, List.set_cons_zero, List.set_cons_succ]
                    refine till_at (i := 3) (d := some 62) (v := ?_) (by kernel_rfl) (by kernel_rfl) (by kernel_rfl) (by kernel_rfl) (by kernel_rfl) (fun _ _ _ h => h) (fun o ho => ?_) hS0 ?_
                    rotate_left
                    · simp only [List.getElem?_toArray, List.getElem?_cons_zero, List.getElem?_cons_succ, Option.some.injEq] at ho
                      subst ho
                      refine Or.inl ⟨by rfl, fun w' hSw => ?_⟩
                      obtain ⟨hSw0, hSw1⟩ := hSw
                      go_simp
                      try with_reducible rfl
                    try simp only [Act.put, List.setIfInBounds_toArray, List.set_cons_zero, List.set_cons_succ]
                    refine till_at (i := 4) (d := some 63) (v := ?_) (by kernel_rfl) (by kernel_rfl) (by kernel_rfl) (by kernel_rfl) (by kernel_rfl) (fun _ _ _ h => h) (fun o ho => ?_) hS0 ?_
                    rotate_left
                    · simp only [List.getElem?_toArray, List.getElem?_cons_zero, List.getElem?_cons_succ, Option.some.injEq] at ho
                      subst ho
                      refine Or.inl ⟨by rfl, fun w' hSw => ?_⟩
                      obtain ⟨hSw0, hSw1⟩ := hSw
                      go_simp
                      try with_reducible rfl
                    try simp only [Act.put, List.setIfInBounds_toArray, List.set_cons_zero, List.set_cons_succ]
                    refine till_at (i := 5) (d := some 64) (v := ?_) (by kernel_rfl) (by kernel_rfl) (by kernel_rfl) (by kernel_rfl) (by kernel_rfl) (fun _ _ _ h => h) (fun o ho => ?_) hS0 ?_
                    rotate_left
                    · simp only [List.getElem?_toArray, List.getElem?_cons_zero, List.getElem?_cons_succ, Option.some.injEq] at ho
                      subst ho
                      refine Or.inl ⟨by rfl, fun w' hSw => ?_⟩
                      obtain ⟨hSw0, hSw1⟩ := hSw
                      go_simp
                      try with_reducible rfl
                    try simp only [Act.put, List.setIfInBounds_toArray, List.set_cons_zero, List.set_cons_succ]
                    refine till_at (i := 6) (d := some 65) (v := ?_) (by kernel_rfl) (by kernel_rfl) (by kernel_rfl) (by kernel_rfl) (by kernel_rfl) (fun _ _ _ h => h) (fun o ho => ?_) hS0 ?_
                    rotate_left
                    · simp only [List.getElem?_toArray, List.getElem?_cons_zero, List.getElem?_cons_succ, Option.some.injEq] at ho
                      subst ho
                      refine Or.inl ⟨by rfl, fun w' hSw => ?_⟩
                      obtain ⟨hSw0, hSw1⟩ := hSw
                      go_simp
                      try with_reducible rfl
                    try simp only [Act.put, List.setIfInBounds_toArray, List.set_cons_zero, List.set_cons_succ]
                    refine till_at (i := 7) (d := some 66) (v := ?_) (by kernel_rfl) (by kernel_rfl) (by kernel_rfl) (by kernel_rfl) (by kernel_rfl) (fun _ _ _ h => h) (fun o ho => ?_) hS0 ?_
                    rotate_left
                    · simp only [List.getElem?_toArray, List.getElem?_cons_zero, List.getElem?_cons_succ, Option.some.injEq] at ho
                      subst ho
                      refine Or.inl ⟨by rfl, fun w' hSw => ?_⟩
                      obtain ⟨hSw0, hSw1⟩ := hSw
                      go_simp
                      try with_reducible rfl
                    try simp only [Act.put, List.setIfInBounds_toArray, List.set_cons_zero, List.set_cons_succ]
                    refine till_at (i := 8) (d := some 67) (v := ?_) (by kernel_rfl) (by kernel_rfl) (by kernel_rfl) (by kernel_rfl) (by kernel_rfl) (fun _ _ _ h => h) (fun o ho => ?_) hS0 ?_
                    rotate_left
                    · simp only [List.getElem?_toArray, List.getElem?_cons_zero, List.getElem?_cons_succ, Option.some.injEq] at ho
                      subst ho
                      refine Or.inl ⟨by rfl, fun w' hSw => ?_⟩
                      obtain ⟨hSw0, hSw1⟩ := hSw
                      go_simp
                      try with_reducible rfl
                    try simp only [Act.put, List.setIfInBounds_toArray, List.set_cons_zero, List.set_cons_succ]
                    refine till_at (i := 9) (d := some 68) (v := ?_) (by kernel_rfl) (by kernel_rfl) (by kernel_rfl) (by kernel_rfl) (by kernel_rfl) (fun _ _ _ h => h) (fun o ho => ?_) hS0 ?_
                    rotate_left
                    · simp only [List.getElem?_toArray, List.getElem?_cons_zero, List.getElem?_cons_succ, Option.some.injEq] at ho
                      subst ho
                      refine Or.inl ⟨by rfl, fun w' hSw => ?_⟩
                      obtain ⟨hSw0, hSw1⟩ := hSw
                      go_simp
                      try with_reducible rfl
                    try simp only [Act.put, List.setIfInBounds_toArray, List.set_cons_zero, List.set_cons_succ]
                    refine till_step (i := 10) (by kernel_rfl) (by kernel_rfl) (fun o ho K' hK => ?_)
                    simp only [List.getElem?_toArray, List.getElem?_cons_zero, List.getElem?_cons_succ, Option.some.injEq] at ho
                    subst ho
                    go_simp
                    have hS10 := And.intro hqa hla
                    refine hK.out _ _ (fun _ => hS10) (fun _ => ?_)
                    clear hK K'
                    try simp only [Act.put, List.setIfInBounds_toArray, List.set_cons_zero, List.set_cons_succ]
                    refine till_step (i := 11) (by kernel_rfl) (by kernel_rfl) (fun o ho K' hK => ?_)
                    simp only [List.getElem?_toArray, List.getElem?_cons_zero, List.getElem?_cons_succ, Option.some.injEq] at ho
                    subst ho
                    refine step_push_at E_ints (by rfl) _ _ (by rfl) wc.heap.size (by rfl) (owns_ext HUO.out ((Ext.refl wr).drew)) (by rfl) (by rfl) (by rfl) (by simp [Value.oneCell']) ?_ HS5.out.1 HS5.out.2 hzc
                    intro g9 cap9 w9 hown9 hg9 hloc9
                    have hx9 : Ext wc w9 := (hxj.trans HD.out).grown hg9 (fun b hb => owns_block HUO.out b hb)
                    obtain ⟨hL9, hc9, hf9⟩ := sep_grow (xss := XX) HNN.out HSW.out.1 (owns_ext HSW.out.2.1 HD.out) (fun i u xs hu hx => owns_ext (HSW.out.2.2.1 i u xs hu hx) HD.out) HSW.out.2.2.2 HUU.out HRR.out hown9 hg9
                    have HL9 := Lib.hid hL9
                    have hl9 : w9.cell? ⟨lb, lo + i, none⟩ = some (.int .i64 ((i : Int) + 1)) := by
                      obtain ⟨lb', lo', e, h⟩ := H3.out w9 i ((hxi.trans hxg).trans hx9) hlt
                      cases e; exact h
                    clear hL9 hown9 hg9 hloc9
                    have hS11 := And.intro hc9 hl9
                    refine hK.out _ _ (fun _ => hS11) (fun _ => ?_)
                    clear hK K'
                    try simp only [Act.put, List.setIfInBounds_toArray, List.set_cons_zero, List.set_cons_succ]
                    refine till_at (i := 12) (d := some 71) (v := ?_) (by kernel_rfl) (by kernel_rfl) (by kernel_rfl) (by kernel_rfl) (by kernel_rfl) (fun _ _ _ h => h) (fun o ho => ?_) hS11 ?_
                    rotate_left
                    · simp only [List.getElem?_toArray, List.getElem?_cons_zero, List.getElem?_cons_succ, Option.some.injEq] at ho
                      subst ho
                      refine Or.inl ⟨by rfl, fun w' hSw => ?_⟩
                      obtain ⟨hSw0, hSw1⟩ := hSw
                      go_simp
                      try with_reducible rfl
                    try simp only [Act.put, List.setIfInBounds_toArray, List.set_cons_zero, List.set_cons_succ]
                    refine till_step (i := 13) (by kernel_rfl) (by kernel_rfl) (fun o ho K' hK => ?_)
                    simp only [List.getElem?_toArray, List.getElem?_cons_zero, List.getElem?_cons_succ, Option.some.injEq] at ho
                    subst ho
                    go_simp
                    refine hK.out _ _ (fun h => absurd rfl h) (fun _ => ?_)
                    clear hK K'
                    try simp only [Act.put, List.setIfInBounds_toArray, List.set_cons_zero, List.set_cons_succ]
                    refine till_done (by kernel_rfl) ?_ _
                    refine NoPanic.normal ?_
                    try simp only [Act.put, List.setIfInBounds_toArray, List.set_cons_zero, List.set_cons_succ]
                    have hx10 : Ext wc (w9.setCell ⟨pb, g, none⟩ (.slice (some ⟨g9, 0, none⟩) (r.length + 1) cap9)) := hx9.setCell (p := ⟨pb, g, none⟩) hpb _
                    have HX10 := Lib.hid hx10
                    have HNX := Lib.hid (HN.out.ext hx10)
                    have hz10 := (hxg.trans hx10).size
                    generalize hw10 : w9.setCell ⟨pb, g, none⟩ (.slice (some ⟨g9, 0, none⟩) (r.length + 1) cap9) = w10 at *
                    clear hw10 hc9 hf9 hl9 hx9 q0 hlc hqa hla
                    obtain ⟨nvals, n1, n2, n3⟩ := HNX.out
                    have HNV := Lib.hid (And.intro n1 (And.intro n2 n3))
                    clear n1 n2 n3
                    go_wp2_with (at_builtin; refine wpList_push_at E_plans rfl _ _ rfl wa.heap.size rfl HNV.out.2.1 rfl rfl rfl (by simp [Value.oneCell']) ?_ HS3.out.1 HS3.out.2 hz10; intro g11 cap11 w11 hown11 hext11 hg11 hloc11; have hx11 : Ext wa w11 := hext11 wa (hxg.trans HX10.out) (Nat.le_refl _); have HP11 := Lib.hid (plans_push HNV.out.1 HNV.out.2.1 HNV.out.2.2 (HL9.out.lower hag) hown11 hg11); clear hown11 hext11 hg11 hloc11)
                    refine ⟨⟨g + 1, by omega, by go_num, ?_, hx11⟩, by simp [intOf]; omega⟩
                    rw [HMS.out, HGD.out, HYS.out]
                    exact HP11.out
            · have hge : g = xss.length + 1 := by omega
              have x1 : decide ((g : Int) ≤ (xss.length : Int)) = false := by simpa using hlg
              have HEND : Hid (midWay i k g = midWay i (k + 1) 0) := by unfold Hid; rw [hge, midWay_end HXS.out, midWay_start]
              clear hge
              go_wp2
              refine ⟨⟨k + 1, by omega, by go_num, by rw [← HEND.out]; exact hN, hxg⟩, by simp [intOf]; omega⟩
        · have hke : k = (waysUp i).length := by omega
          have x1 : decide ((k : Int) < ((waysUp i).length : Int)) = false := by simpa using hlk
          have HEND := Lib.hid (midWay_next (i := i) (k := k) (by omega))
          have HRE := Lib.hid hN.rest
          clear hke hN
          go_wp2
          refine ⟨⟨i + 1, by omega, by go_num, by rw [← HEND.out]; exact HRE.out, hxi.trans hxk⟩, by simp [intOf]; omega⟩
    · have hie : i = n := by omega
      have HEND : Hid (PlansAt wr u3 (waysUp n)) := by unfold Hid; rw [← hie]; exact hP
      have x1 : decide ((i : Int) < (n : Int)) = false := by simpa using hlt
      clear hie hP
      go_wp2
      go_ret
      exact ⟨_, rfl, hxi, HEND.out⟩
end Go.Proofs.YtapkbonlijhmjaaGreatDoor

/- The reference's sorted: insertion into a row of lists of its own. -/
namespace Go.Proofs.YtapkbonlijhmjaaGreatDoor
open Go.RowKit

/-- A slice, and what it holds. -/
abbrev RowP := Value × List Int
def dP : RowP := (.slice none 0 0, [])
def leP (a b : RowP) : Prop := leL a.2 b.2 = true
theorem bef_le {a b : RowP} (h : befB a.2 b.2 = true) : leP a b := by
  unfold leP leL
  rw [befB_cmp, decide_eq_true_eq] at h
  rw [decide_eq_true_eq]; omega
theorem nbef_le {a b : RowP} (h : befB a.2 b.2 = false) : leP b a := by
  unfold leP leL
  rw [befB_cmp, decide_eq_false_iff_not] at h
  rw [decide_eq_true_eq, cmpL_neg]; omega
/-- The first k numbers are in order. -/
def rSortedTo (l : List RowP) (k : Nat) : Prop := ∀ a b, a < b → b < k → leP (l.getD a dP) (l.getD b dP)
theorem rSortedTo_all {l : List RowP} (h : rSortedTo l l.length) : (l.map Prod.snd).Pairwise fun a b => leL a b = true := by
  rw [List.pairwise_map]
  rw [List.pairwise_iff_getElem]
  intro i j hi hj hij
  have := h i j hij hj
  rw [List.getD_eq_getElem?_getD, List.getD_eq_getElem?_getD, List.getElem?_eq_getElem hi, List.getElem?_eq_getElem hj] at this
  exact this
/-- The first k + 1 numbers are in order but for the m-th, which is no greater than those behind it. -/
def rMidTo (l : List RowP) (k m : Nat) : Prop := (∀ a b, a < b → b ≤ k → a ≠ m → b ≠ m → leP (l.getD a dP) (l.getD b dP)) ∧ ∀ b, m < b → b ≤ k → leP (l.getD m dP) (l.getD b dP)
theorem rMid_of_up {l : List RowP} {k : Nat} (h : rSortedTo l k) : rMidTo l k k := ⟨fun a b hab hb ha hb' => h a b hab (by omega), fun b h1 h2 => by omega⟩
theorem rUp_of_mid0 {l : List RowP} {k : Nat} (h : rMidTo l k 0) : rSortedTo l (k + 1) := fun a b hab hb => by
  by_cases ha : a = 0
  · subst ha; exact h.2 b hab (by omega)
  · exact h.1 a b hab (by omega) ha (by omega)
theorem rUp_of_mid {l : List RowP} {k p : Nat} (h : rMidTo l k (p + 1)) (hp : leP (l.getD p dP) (l.getD (p + 1) dP)) : rSortedTo l (k + 1) := fun a b hab hb => by
  by_cases ha : a = p + 1
  · subst ha; exact h.2 b hab (by omega)
  · by_cases hb' : b = p + 1
    · subst hb'
      by_cases hap : a = p
      · subst hap; exact hp
      · exact leL_trans _ _ _ (h.1 a p (by omega) (by omega) (by omega) (by omega)) hp
    · exact h.1 a b hab (by omega) ha hb'
theorem rGetD_set {l : List RowP} {i j : Nat} {x : RowP} (hi : i < l.length) : (l.set i x).getD j dP = if i = j then x else l.getD j dP := by
  rw [List.getD_eq_getElem?_getD, List.getElem?_set]
  by_cases e : i = j
  · subst e; simp [hi]
  · rw [if_neg e, if_neg e, List.getD_eq_getElem?_getD]
def rSwapL (l : List RowP) (p : Nat) : List RowP := (l.set (p + 1) (l.getD p dP)).set p (l.getD (p + 1) dP)
theorem rSwapL_len (l : List RowP) (p : Nat) : (rSwapL l p).length = l.length := by simp [rSwapL]
theorem rSwapL_at {l : List RowP} {p j : Nat} (hp : p + 1 < l.length) : (rSwapL l p).getD j dP = if j = p then l.getD (p + 1) dP else if j = p + 1 then l.getD p dP else l.getD j dP := by
  unfold rSwapL
  rw [rGetD_set (by rw [List.length_set]; omega), rGetD_set hp]
  by_cases h1 : j = p
  · rw [if_pos h1.symm, if_pos h1]
  · rw [if_neg (fun e => h1 e.symm), if_neg h1]
    by_cases h2 : j = p + 1
    · rw [if_pos h2.symm, if_pos h2]
    · rw [if_neg (fun e => h2 e.symm), if_neg h2]
theorem rSwapL_perm {l : List RowP} {p : Nat} (hp : p + 1 < l.length) : (rSwapL l p).Perm l := by
  have h1 : l.getD p dP = l[p] := by rw [List.getD_eq_getElem?_getD, List.getElem?_eq_getElem (by omega)]; rfl
  have h2 : l.getD (p + 1) dP = l[p + 1] := by rw [List.getD_eq_getElem?_getD, List.getElem?_eq_getElem hp]; rfl
  unfold rSwapL
  rw [h1, h2]
  exact List.set_set_perm hp (by omega)
theorem rMid_swap {l : List RowP} {k p : Nat} (hp : p + 1 < l.length) (_hk : p + 1 ≤ k) (h : rMidTo l k (p + 1)) (hlt : leP (l.getD (p + 1) dP) (l.getD p dP)) : rMidTo (rSwapL l p) k p := by
  refine ⟨fun a b hab hb ha hb' => ?_, fun b h1 h2 => ?_⟩
  · rw [rSwapL_at hp, rSwapL_at hp, if_neg ha, if_neg hb']
    by_cases e1 : a = p + 1
    · rw [if_pos e1, if_neg (by omega)]
      exact h.1 p b (by omega) hb (by omega) (by omega)
    · rw [if_neg e1]
      by_cases e2 : b = p + 1
      · rw [if_pos e2]
        exact h.1 a p (by omega) (by omega) (by omega) (by omega)
      · rw [if_neg e2]
        exact h.1 a b hab hb e1 e2
  · rw [rSwapL_at hp, rSwapL_at hp, if_pos rfl, if_neg (by omega)]
    by_cases e2 : b = p + 1
    · rw [if_pos e2]; exact hlt
    · rw [if_neg e2]
      exact h.2 b (by omega) h2
theorem rSwap_map {l : List RowP} {p : Nat} : ((l.map Prod.fst).set (p + 1) (l.getD p dP).1).set p (l.getD (p + 1) dP).1 = (rSwapL l p).map Prod.fst := by
  unfold rSwapL; rw [List.map_set, List.map_set]
/-- Each slice holds its list. -/
def HoldsP (w : World) (l : List RowP) : Prop := ∀ q, q ∈ l → IntsAt w q.1 q.2
theorem HoldsP.ext {w w' : World} {l : List RowP} (h : HoldsP w l) (k : Ext w w') : HoldsP w' l := fun q hq => (h q hq).ext k
theorem pairs_of {w : World} {vs : List Value} {xss : List (List Int)} (hl : vs.length = xss.length) (h : ∀ (i : Nat) (x : Value) (xs : List Int), vs[i]? = some x → xss[i]? = some xs → IntsAt w x xs) : (vs.zip xss).map Prod.fst = vs ∧ (vs.zip xss).map Prod.snd = xss ∧ HoldsP w (vs.zip xss) := by
  refine ⟨List.map_fst_zip (by omega), List.map_snd_zip (by omega), fun q hq => ?_⟩
  obtain ⟨i, hi, rfl⟩ := List.mem_iff_getElem.1 hq
  rw [List.length_zip] at hi
  rw [List.getElem_zip]
  exact h i _ _ (List.getElem?_eq_getElem (by omega)) (List.getElem?_eq_getElem (by omega))
theorem rows_of_pairs {w : World} {v : Value} {l : List RowP} (h : RowAt w v l.length (l.map Prod.fst)) (hh : HoldsP w l) : RowsAt w v (l.map Prod.snd) := by
  refine ⟨l.map Prod.fst, by simp, by rw [List.length_map]; exact h, fun i x xs hx hxs => ?_⟩
  rw [List.getElem?_map] at hx hxs
  cases hq : l[i]? with
  | none => rw [hq] at hx; simp at hx
  | some q =>
    rw [hq] at hx hxs
    simp at hx hxs
    subst hx hxs
    exact hh q (List.mem_of_getElem? hq)
theorem rSorted_end {Z0 Z : List RowP} (hp : Z.Perm Z0) (hs : rSortedTo Z Z.length) : Z.map Prod.snd = sortL (Z0.map Prod.snd) :=
  sortL_eq (hp.map _) (rSortedTo_all hs)
theorem pair_some {l : List RowP} {i : Nat} {q : RowP} (hi : i < l.length) (h : l.getD i dP = q) : l[i]? = some q := by
  rw [List.getD_eq_getElem?_getD, List.getElem?_eq_getElem hi] at h
  rw [List.getElem?_eq_getElem hi, ← h]; rfl
theorem pairs_one {w : World} {l : List RowP} (hh : HoldsP w l) : ∀ u, u ∈ l.map Prod.fst → u.oneCell' = true := by
  intro u hu
  obtain ⟨q, hq, rfl⟩ := List.mem_map.1 hu
  obtain ⟨a, c, e, _⟩ := (hh q hq).open
  rw [e]; rfl
set_option maxRecDepth 100000 in
set_option maxHeartbeats 8000000 in
theorem rsorted_pairs (hv : Value) (Z0 : List RowP) (w : World) (hrow : RowAt w hv Z0.length (Z0.map Prod.fst)) (hh : HoldsP w Z0) (hlen : Z0.length ≤ 1000) (h0 : 0 < Z0.length) :
    Calls Tryz.prog 64 #[hv] w fun e w' => ∃ v1, e = .returned v1 ∧ Ext w w' ∧ RowsAt w' v1 (sortL (Z0.map Prod.snd)) := by
  have HV := Lib.hid hrow
  have HH := Lib.hid hh
  have HONE := Lib.hid (pairs_one hh)
  have HLZ : Hid ((Z0.map Prod.fst).length = Z0.length * 1) := by unfold Hid; simp
  obtain ⟨a, c, rfl, h1, h2, _⟩ := hrow
  have hsz : 0 + Z0.length ≤ maxLen ∧ (0 + Z0.length) * 24 ≤ 140737488355328 := by unfold maxLen; omega
  have HSZ := Lib.hid hsz
  have hmix : Tryz.prog.follows .mixedOrders = true := by kernel_rfl
  clear hsz hh
  go_enter Tryz.func64, Tryz.ntmps64
  go_wp2_with (at_builtin; refine wpList_append_row E_rows rfl _ _ rfl w.heap.size rfl (World.ownsRow_nil _ _ _ _) rfl HV.out HLZ.out HONE.out ?_ HSZ.out.1 HSZ.out.2 (Nat.le_refl _); intro v8 w8 hown8 hgr8 _; have hx8 : Ext w w8 := (Ext.refl _).grown hgr8 (fun g hg => by cases hg); rw [Nat.zero_add, List.nil_append] at hown8; have hform : ∃ g cap, v8 = .slice (some ⟨g, 0, none⟩) Z0.length cap := (by obtain ⟨m, hm⟩ : ∃ m, Z0.length = m + 1 := ⟨Z0.length - 1, by omega⟩; rw [hm] at hown8 ⊢; exact owns_succ hown8); obtain ⟨g, cap, hv8⟩ := hform; subst hv8; have HO := Lib.hid hown8; clear hown8 hgr8)
  have hgw : w.heap.size ≤ g := (World.ownsRow.lt HO.out g rfl).1
  go_loopw [4] (fun i wr => ∃ (k : Nat) (X : List RowP), k ≤ Z0.length ∧ i = .int .i64 k ∧ wr.ownsRow w.heap.size 22 1 (.slice (some ⟨g, 0, none⟩) Z0.length cap) Z0.length (X.map Prod.fst) ∧ Hid (X.Perm Z0 ∧ rSortedTo X k) ∧ Ext w wr) (fun i _ => Z0.length - (intOf i).toNat)
  case atStart => exact ⟨0, Z0, Nat.zero_le _, rfl, HO.out, ⟨List.Perm.refl _, fun a b _ h => by omega⟩, hx8⟩
  case round =>
    clear HO
    obtain ⟨k, X, hk, rfl, hown, hX, hx⟩ := hrel
    by_cases hlt : k < Z0.length
    · have x1 : decide ((k : Int) < (Z0.length : Int)) = true := by simpa using hlt
      have HO := Lib.hid hown
      clear hown
      go_wp2
      clear x1
      obtain ⟨wo, rfl⟩ : ∃ wo : World, wo = wr := ⟨_, rfl⟩
      go_loopw [5] (fun j wr => ∃ (m : Nat) (Y : List RowP), m ≤ k ∧ j = .int .i64 m ∧ wr.ownsRow w.heap.size 22 1 (.slice (some ⟨g, 0, none⟩) Z0.length cap) Z0.length (Y.map Prod.fst) ∧ Hid (Y.Perm Z0 ∧ rMidTo Y k m) ∧ Ext w wr) (fun j _ => (intOf j).toNat)
      case atStart => exact ⟨k, X, Nat.le_refl _, rfl, HO.out, ⟨hX.out.1, rMid_of_up hX.out.2⟩, hx⟩
      case round =>
        clear HO hX hx
        obtain ⟨m, Y, hm, rfl, hown, hY, hx⟩ := hrel
        have hYl := hY.out.1.length_eq
        cases m with
        | zero =>
          have hup := rUp_of_mid0 hY.out.2
          have HU := Lib.hid (And.intro hY.out.1 hup)
          have HO := Lib.hid hown
          clear hown hup hYl
          go_upto_region 6 with fail
          go_quiet (fail)
          go_wp2
          refine ⟨⟨k + 1, Y, by omega, by go_num, owns_ext HO.out ((Ext.refl _).drewN _), HU.out, hx.drewN _⟩, by simp [intOf]; omega⟩
        | succ p =>
          have hpl : p + 1 < Y.length := by omega
          obtain ⟨⟨xv, xs⟩, hq1⟩ : ∃ q, Y.getD (p + 1) dP = q := ⟨_, rfl⟩
          obtain ⟨⟨yv, ys⟩, hq0⟩ : ∃ q, Y.getD p dP = q := ⟨_, rfl⟩
          have hs1 := pair_some hpl hq1
          have hs0 := pair_some (by omega) hq0
          have hI1 : IntsAt wr xv xs := (HH.out _ (hY.out.1.mem_iff.1 (List.mem_of_getElem? hs1))).ext hx
          have hI0 : IntsAt wr yv ys := (HH.out _ (hY.out.1.mem_iff.1 (List.mem_of_getElem? hs0))).ext hx
          have HBF := Lib.hid (fun w1 (hx : Ext wr w1) => rbefore_any _ _ xs ys w1 (hI1.ext hx) (hI0.ext hx))
          obtain ⟨a1, c1, rfl, _⟩ := hI1.open
          obtain ⟨a0, c0, rfl, _⟩ := hI0.open
          have q1 : wr.cell? ⟨g, p + 1, none⟩ = some (.slice a1 xs.length c1) := by
            rw [hown.cellAt (p + 1) (by omega), List.getElem?_map, hs1]; rfl
          have q0 : wr.cell? ⟨g, p, none⟩ = some (.slice a0 ys.length c0) := by
            rw [hown.cellAt p (by omega), List.getElem?_map, hs0]; rfl
          have b1 : (p : Int) + 1 < (Z0.length : Int) := by omega
          have b2 : (p : Int) < (Z0.length : Int) := by omega
          have b3 : (0 : Int) ≤ (p : Int) := by omega
          have b4 : (0 : Int) ≤ (p : Int) + 1 := by omega
          have b5 : ((p : Int) + 1).toNat = p + 1 := by omega
          have t1 : decide ((0 : Int) < (p : Int) + 1) = true := by rw [decide_eq_true_eq]; omega
          have E1 : IntKind.i64.wrap ((p : Int) + 1 - 1) = (p : Int) := by rw [IntWalk.i64_in _ (by omega)]; omega
          have E2 : IntKind.i64.wrap (p : Int) = (p : Int) := IntWalk.i64_in _ (by omega)
          have HY := hY
          have HO := Lib.hid hown
          have HS : Hid (∀ W, Ext wr W → W.cell? ⟨g, p + 1, none⟩ = some (.slice a1 xs.length c1) ∧ W.cell? ⟨g, p, none⟩ = some (.slice a0 ys.length c0)) := fun W h => ⟨h.cell q1, h.cell q0⟩
          have HSW := Lib.hid (rSwap_map (l := Y) (p := p))
          rw [hq1, hq0] at HSW
          clear hown hY hYl hI1 hI0 hs1 hs0
          cases hc : befB xs ys with
          | true =>
            have HM := Lib.hid (rMid_swap hpl hm HY.out.2 (by rw [hq1, hq0]; exact bef_le hc))
            have HP := Lib.hid ((rSwapL_perm hpl).trans HY.out.1)
            rw [hc] at HBF
            clear hpl hc hq1 hq0
            go_upto_region 6 with fail
            go_region_held3 (fun w' => w'.cell? ⟨g, p + 1, none⟩ = some (.slice a1 xs.length c1) ∧ w'.cell? ⟨g, p, none⟩ = some (.slice a0 ys.length c0))
              (first | go_keep | exact HS.out _ hx1)
              (first
                | (go_at_call 79; refine (HBF.out _ (Ext.refl wr).drew).mono ?_; rintro e w1 ⟨rfl, hx1'⟩; have hx1 : Ext wr w1 := ((Ext.refl wr).drew).trans hx1'; clear HBF))
            have hown1 := owns_ext HO.out hx1
            have f1 := hown1.frozenAt (p + 1)
            have f0 := hown1.frozenAt p
            have e1 := hx1.cell q1
            have e0 := hx1.cell q0
            clear q0 q1 t1 hown1
            go_upto_region 8 with fail
            go_region
            all_goals (
              have hown2 := (((owns_ext HO.out hx1.drew).stored (p + 1) (.slice a0 ys.length c0)).1.stored p (.slice a1 xs.length c1)).1
              rw [HSW.out] at hown2
              have hx2 := (((hx.trans hx1).drew).setCell (p := ⟨g, p + 1, none⟩) hgw (.slice a0 ys.length c0)).setCell (p := ⟨g, p, none⟩) hgw (.slice a1 xs.length c1)
              have HF := Lib.hid (And.intro hown2 hx2)
              clear hown2 hx2 e0 e1 f0 f1
              go_wp2
              refine ⟨⟨p, rSwapL Y p, by omega, by go_num, HF.out.1, ⟨HP.out, HM.out⟩, HF.out.2⟩, by simp [intOf]⟩)
          | false =>
            have HU := Lib.hid (And.intro HY.out.1 (rUp_of_mid HY.out.2 (by rw [hq1, hq0]; exact nbef_le hc)))
            rw [hc] at HBF
            clear hpl hc hq1 hq0
            go_upto_region 6 with fail
            go_region_held3 (fun w' => w'.cell? ⟨g, p + 1, none⟩ = some (.slice a1 xs.length c1) ∧ w'.cell? ⟨g, p, none⟩ = some (.slice a0 ys.length c0))
              (first | go_keep | exact HS.out _ hx1)
              (first
                | (go_at_call 79; refine (HBF.out _ (Ext.refl wr).drew).mono ?_; rintro e w1 ⟨rfl, hx1'⟩; have hx1 : Ext wr w1 := ((Ext.refl wr).drew).trans hx1'; clear HBF))
            go_wp2
            refine ⟨⟨k + 1, Y, by omega, by go_num, owns_ext HO.out hx1, HU.out, hx.trans hx1⟩, by simp [intOf]; omega⟩
    · have hke : k = Z0.length := by omega
      have HFIN : Hid (RowsAt wr (.slice (some ⟨g, 0, none⟩) Z0.length cap) (sortL (Z0.map Prod.snd))) := by
        have hp := hX.out.1
        have hl := hp.length_eq
        rw [← rSorted_end hp (by rw [hl, ← hke]; exact hX.out.2)]
        refine rows_of_pairs (l := X) ?_ (fun q hq => (HH.out q (hp.mem_iff.1 hq)).ext hx)
        rw [hl]
        exact RowAt.of_owns hown
      have x1 : decide ((k : Int) < (Z0.length : Int)) = false := by simpa using hlt
      clear hke hown
      go_wp2
      go_ret
      exact ⟨_, rfl, hx, HFIN.out⟩
theorem rsorted_any (pv : Value) (P : List (List Int)) (w : World) (hl : RowsAt w pv P) (hlen : P.length ≤ 1000) (h0 : 0 < P.length) :
    Calls Tryz.prog 64 #[pv] w fun e w' => ∃ v1, e = .returned v1 ∧ Ext w w' ∧ RowsAt w' v1 (sortL P) := by
  obtain ⟨vs, hvl, hrow, hin⟩ := hl
  obtain ⟨hf, hsnd, hh⟩ := pairs_of hvl hin
  have hz : (vs.zip P).length = P.length := by rw [List.length_zip]; omega
  have h := rsorted_pairs pv (vs.zip P) w (by rw [hz, hf]; exact hrow) hh (by omega) (by omega)
  rwa [hsnd] at h
end Go.Proofs.YtapkbonlijhmjaaGreatDoor

/- The reference's Plan. -/
namespace Go.Proofs.YtapkbonlijhmjaaGreatDoor
open Go.RowKit

/-- Short lists of houses. -/
def StopsL (c : Roads) (P : List (List Int)) : Prop := P.length ≤ 5 ∧ ∀ l, l ∈ P → (∀ n, n ∈ l → 1 ≤ n ∧ n ≤ c.loads.length) ∧ l.length ≤ 5
theorem StopsL.nil (c : Roads) : StopsL c [] := ⟨by simp, fun l h => by simp at h⟩
theorem way_stops {c : Roads} (hB : RoadsB c) (h5 : c.loads.length ≤ 5) {x : List (List Int)} (hx : x ∈ waysAll c) : x ≠ [] ∧ StopsL c x := by
  have h1 := waysAll_ok hB hx
  rw [waysUp_all] at hx
  have h2 := (waysUp_bd c.loads.length h5).2 x hx
  exact ⟨h1.1, by omega, fun l hl => ⟨(h1.2 l hl).2.2, by have := (h2.2 l hl).1; omega⟩⟩
theorem refTour_in (c : Roads) (l : List Int) : refTour c l ∈ refO l.length l := by
  have hne : refO l.length l ≠ [] := fun e => by
    have h1 := refO_len l.length l rfl
    rw [e, List.length_nil] at h1
    have : ∀ n, 0 < facN n := fun n => by
      induction n with
      | zero => decide
      | succ n ih => unfold facN; exact Nat.mul_pos (by omega) ih
    have := this l.length
    omega
  rw [← bestUp_all c l (k := (refO l.length l).length) (Nat.le_refl _)]
  exact bestUp_mem hne _
theorem refTour_stops {c : Roads} {l : List Int} (hs : ∀ n, n ∈ l → 1 ≤ n ∧ n ≤ c.loads.length) : (∀ n, n ∈ refTour c l → 1 ≤ n ∧ n ≤ c.loads.length) ∧ (refTour c l).length = l.length := by
  have hm := refTour_in c l
  refine ⟨fun n hn => ?_, refO_mem_len _ l rfl _ hm⟩
  rcases refO_sub _ _ _ hm n hn with h | ⟨_, h⟩
  · exact hs n h
  · omega
theorem planned_stops {c : Roads} {x : List (List Int)} (h : StopsL c x) : StopsL c (sortL (x.map (refTour c))) := by
  refine ⟨by rw [(sortL_perm _).length_eq, List.length_map]; exact h.1, fun l hl => ?_⟩
  rw [(sortL_perm _).mem_iff, List.mem_map] at hl
  obtain ⟨y, hy, rfl⟩ := hl
  have h1 := h.2 y hy
  have h2 := refTour_stops h1.1
  exact ⟨h2.1, by rw [h2.2]; exact h1.2⟩
/-- The best of the first K ways. -/
def refUp (c : Roads) (K : Nat) : List (List Int) := ((waysAll c).take K).foldl (refStep c) []
theorem refUp_succ {c : Roads} {K : Nat} {x : List (List Int)} (h : (waysAll c)[K]? = some x) : refUp c (K + 1) = refStep c (refUp c K) x := by
  unfold refUp; rw [List.take_add_one, h, List.foldl_append]; rfl
theorem refUp_stops {c : Roads} (hB : RoadsB c) (h5 : c.loads.length ≤ 5) : ∀ K, StopsL c (refUp c K)
  | 0 => StopsL.nil c
  | K + 1 => by
    cases h : (waysAll c)[K]? with
    | none =>
      have : refUp c (K + 1) = refUp c K := by unfold refUp; rw [List.take_add_one, h]; simp
      rw [this]; exact refUp_stops hB h5 K
    | some x =>
      rw [refUp_succ h]
      unfold refStep
      split
      · exact planned_stops (way_stops hB h5 (List.mem_of_getElem? h)).2
      · exact refUp_stops hB h5 K
theorem refUp_end {c : Roads} (hB : RoadsB c) {K : Nat} (h : (waysAll c).length ≤ K) : refUp c K = optL (bestPlan c) := by
  unfold refUp; rw [List.take_of_length_le h]; exact (refPlan_eq hB).1
theorem light_succ {c : Roads} {x : List (List Int)} {j : Nat} {l : List Int} (h : x[j]? = some l) : lightB c (x.take (j + 1)) = (lightB c (x.take j) && decide (loadOf c l ≤ c.bears)) := by
  unfold lightB; rw [List.take_add_one, h, List.all_append]; simp
theorem tours_succ {c : Roads} {x : List (List Int)} {j : Nat} {l : List Int} (h : x[j]? = some l) : (x.take (j + 1)).map (refTour c) = (x.take j).map (refTour c) ++ [refTour c l] := by
  rw [List.take_add_one, h]; simp
set_option maxRecDepth 100000 in
set_option maxHeartbeats 16000000 in
theorem rplan_any (v : Value) (c : Roads) (w : World) (hb : RoadsB c) (h5 : c.loads.length ≤ 5) (hc : RoadsAt w v c) :
    Calls Tryz.prog 15 #[v] w fun e w' => ∃ pv, e = .returned (.tuple #[pv, .bool (decide (0 < (optL (bestPlan c)).length))]) ∧ Ext w w' ∧ RowsAt w' pv (optL (bestPlan c)) := by
  have hc' := hc
  obtain ⟨lv, fv, rfl, hll, hff⟩ := hc
  have HPA := Lib.hid (fun hv w1 (hx : IntsAt w1 hv (upto c.loads.length)) => rparts_any hv c.loads.length w1 h5 hx)
  have HLD := Lib.hid (fun w1 (hx : Ext w w1) u l (hu : IntsAt w1 u l) (hs : ∀ n, n ∈ l → 1 ≤ n ∧ n ≤ c.loads.length) (h : l.length ≤ 5) => rload_any _ u c l w1 hb (hc'.ext hx) hu hs (by omega))
  have HTO := Lib.hid (fun w1 (hx : Ext w w1) u l (hu : IntsAt w1 u l) (hs : ∀ n, n ∈ l → 1 ≤ n ∧ n ≤ c.loads.length) (h : l.length ≤ 5) => rtour_own _ u c l w1 hb (hc'.ext hx) hu hs h)
  have HBE := Lib.hid (fun w1 (hx : Ext w w1) u1 u2 x y (h1 : RowsAt w1 u1 x) (h2 : RowsAt w1 u2 y) (s1 : StopsL c x) (s2 : StopsL c y) => rbetter_any _ u1 u2 c x y w1 hb (hc'.ext hx) h1 h2
    (fun l hl => ⟨(s1.2 l hl).1, by have := (s1.2 l hl).2; omega⟩) (fun l hl => ⟨(s2.2 l hl).1, by have := (s2.2 l hl).2; omega⟩) (by have := s1.1; omega) (by have := s2.1; omega))
  have HWS := Lib.hid (fun x hx => way_stops hb h5 (x := x) hx)
  have HRS := Lib.hid (refUp_stops hb h5)
  have HRE := Lib.hid (fun K => refUp_end hb (K := K))
  obtain ⟨la, lk, rfl, l1, l2, _⟩ := hll.open
  obtain ⟨fa, fk, rfl, f1, f2, _⟩ := hff.open
  have hx0 : Ext w (w.alloc (boxC c la fa lk fk)) := (Ext.refl w).alloc _
  have HX0 := Lib.hid hx0
  have HBC := Lib.hid (fun W (h : Ext (w.alloc (boxC c la fa lk fk)) W) => boxC_cells ((h.block (by simp)).trans (World.alloc_heap_new w (boxC c la fa lk fk))))
  have hmix : Tryz.prog.follows .mixedOrders = true := by kernel_rfl
  have H5 := Lib.hid h5
  obtain ⟨N, hN⟩ : ∃ N, (waysAll c).length = N := ⟨_, rfl⟩
  have HNN := Lib.hid hN
  clear hll hff hc' hb h5 hN
  go_enter Tryz.func15, Tryz.ntmps15
  go_wp2
  go_loopw [4, 5] (fun h i wr => ∃ k : Nat, k ≤ c.loads.length ∧ i = .int .i64 k ∧ wr.ownsRow (w.heap.size + 1) 3 1 h k ((upto k).map (.int .i64)) ∧ Ext (w.alloc (boxC c la fa lk fk)) wr) (fun _ i _ => c.loads.length - (intOf i).toNat)
  case atStart => exact ⟨0, Nat.zero_le _, rfl, World.ownsRow_nil _ _ _ _, Ext.refl _⟩
  case round =>
    obtain ⟨k, hk, rfl, hown, hx⟩ := hrel
    obtain ⟨z0, z1, z2⟩ := HBC.out _ hx
    by_cases hlt : k < c.loads.length
    · have x1 : decide ((k : Int) < (c.loads.length : Int)) = true := by simpa using hlt
      have HO := Lib.hid hown
      have hbz : w.heap.size + 1 ≤ wr.heap.size := by have := hx.size; simpa using this
      have hs1 : k + 1 ≤ maxLen ∧ (k + 1) * 8 ≤ 140737488355328 := by have := H5.out; unfold maxLen; omega
      have HS1 := Lib.hid hs1
      have E1 : IntKind.i64.wrap ((k : Int) + 1) = (k : Int) + 1 := IntWalk.i64_in _ (by have := H5.out; omega)
      have HXR := Lib.hid hx
      clear hown hs1
      go_wp2_with (at_builtin; refine wpList_push_at E_ints rfl _ _ rfl (w.heap.size + 1) rfl HO.out rfl rfl rfl (by simp [Value.oneCell']) ?_ HS1.out.1 HS1.out.2 hbz; intro g cap w4 hown4 hext4 hg4 hloc4; have hx4 := hext4 _ HXR.out (by simp); have HO4 := Lib.hid hown4; clear hown4 hext4 hg4 hloc4)
      refine ⟨⟨k + 1, by omega, by go_num, by rw [upto_succ, List.map_append]; exact HO4.out, hx4⟩, by simp [intOf]; omega⟩
    · have hke : k = c.loads.length := by omega
      have HI : Hid (IntsAt wr u4 (upto c.loads.length)) := by
        unfold Hid
        rw [← hke]
        have h2 := RowAt.of_owns hown
        show RowAt _ _ (upto k).length _
        rw [upto_len]; exact h2
      have x1 : decide ((k : Int) < (c.loads.length : Int)) = false := by simpa using hlt
      have HXA := Lib.hid hx
      clear hown hke
      obtain ⟨wa, rfl⟩ : ∃ wa : World, wa = wr := ⟨_, rfl⟩
      go_wp2_with (go_at_call 61; refine (HPA.out _ wa HI.out).mono ?_; rintro e w1 ⟨v1, rfl, hx1, hpl⟩; rw [← waysUp_all] at hpl; obtain ⟨pa, pc, hv1, q1, q2, q3⟩ := hpl.open; rw [HNN.out] at hv1 q1 q3; subst hv1; have Q3 := Lib.hid q3; clear hpl q3)
      clear z0 z1 z2 x1
      go_loopw [6, 8] (fun best k wr => ∃ K : Nat, K ≤ N ∧ k = .int .i64 K ∧ RowsAt wr best (refUp c K) ∧ Ext w1 wr) (fun _ k _ => N - (intOf k).toNat)
      case atStart => exact ⟨0, Nat.zero_le _, rfl, RowsAt.nil _, Ext.refl _⟩
      case round =>
        obtain ⟨K, hK, rfl, hbest, hxK⟩ := hrel
        by_cases hlt : K < N
        · obtain ⟨b1, o1', xv, x, rfl, hxk, hcx, hrows⟩ := Q3.out K hlt
          obtain ⟨hne, hst⟩ := HWS.out x (List.mem_of_getElem? hxk.out)
          have HST := Lib.hid hst
          have HUS := Lib.hid (refUp_succ (c := c) hxk.out)
          obtain ⟨xa, xc, rfl, _, _, r3⟩ := hrows.open
          have R3 := Lib.hid r3
          have HCX := Lib.hid (hxK.cell hcx)
          have HBS := Lib.hid hbest
          have HXO := Lib.hid (HXA.out.trans (hx1.trans hxK))
          have hx5 := hst.1
          have hpos : 0 < x.length := List.length_pos_iff.2 hne
          have x1 : decide ((K : Int) < (N : Int)) = true := by simpa using hlt
          have x2 : (K : Int) < (N : Int) := by omega
          have x3 : (0 : Int) ≤ (K : Int) := by omega
          clear hne hst hcx hrows r3 hbest
          go_wp2
          clear x1
          obtain ⟨wo, rfl⟩ : ∃ wo : World, wo = wr := ⟨_, rfl⟩
          go_loopw [9, 10, 11] (fun p lt i wr => ∃ j : Nat, j ≤ x.length ∧ i = .int .i64 j ∧ lt = .bool (lightB c (x.take j)) ∧ ListsOwn wr wo.heap.size p ((x.take j).map (refTour c)) ∧ Ext wo wr) (fun _ _ i _ => x.length - (intOf i).toNat)
          case atStart => exact ⟨0, Nat.zero_le _, rfl, rfl, ListsOwn.nil _ _, Ext.refl _⟩
          case round =>
            obtain ⟨j, hj, rfl, rfl, hP, hxj⟩ := hrel
            by_cases hlj : j < x.length
            · obtain ⟨b2, o2', lv', l, rfl, hl, hcl, hil⟩ := R3.out j hlj
              obtain ⟨hls, hl5⟩ := HST.out.2 l (List.mem_of_getElem? hl.out)
              have HLS := Lib.hid hls
              have HL5 := Lib.hid hl5
              have HIL := Lib.hid (hil.ext (hxK.trans hxj))
              obtain ⟨ya, yc, rfl, _⟩ := hil.open
              have hcl' := hxK.cell hcl
              have HS : Hid (∀ W, Ext wo W → W.cell? ⟨w.heap.size, 0, none⟩ = some (.slice la c.loads.length lk) ∧ W.cell? ⟨w.heap.size, 1, none⟩ = some (.int .i64 c.bears) ∧ W.cell? ⟨w.heap.size, 2, none⟩ = some (.slice fa c.far.length fk) ∧ W.cell? ⟨b1, o1' + K, none⟩ = some (.slice (some ⟨b2, o2', none⟩) x.length xc) ∧ W.cell? ⟨b2, o2' + j, none⟩ = some (.slice ya l.length yc)) := fun W h => by
                obtain ⟨z0, z1, z2⟩ := HBC.out _ (HXO.out.trans h)
                exact ⟨z0, z1, z2, h.cell HCX.out, h.cell hcl'⟩
              have HLI := Lib.hid (light_succ (c := c) hl.out)
              have HTS := Lib.hid (tours_succ (c := c) hl.out)
              have HXW := Lib.hid ((HX0.out.trans HXO.out).trans hxj)
              obtain ⟨vals, p1, p2, p3⟩ := hP
              have hvl : ((x.take j).map (refTour c)).length = j := by rw [List.length_map, List.length_take]; omega
              rw [hvl] at p2
              have HPV := Lib.hid (And.intro p1 (And.intro p2 p3))
              have HVL := Lib.hid hvl
              have hsz : j + 1 ≤ maxLen ∧ (j + 1) * 24 ≤ 140737488355328 := by unfold maxLen; omega
              have HSZ := Lib.hid hsz
              have x1 : decide ((j : Int) < (x.length : Int)) = true := by simpa using hlj
              have x4 : (j : Int) < (x.length : Int) := by omega
              have x5 : (0 : Int) ≤ (j : Int) := by omega
              obtain ⟨z0, z1, z2, d0, d1⟩ := HS.out _ hxj
              clear hls hl5 hil hcl hcl' p1 p2 p3 hvl hsz
              cases hq : lightB c (x.take j) with
              | true =>
                have HQ : Hid (lightB c (x.take (j + 1)) = decide (loadOf c l ≤ c.bears)) := by unfold Hid; rw [HLI.out, hq, Bool.true_and]
                clear hq
                go_upto_region 16 with fail
                go_region_held3 (fun w' => w'.cell? ⟨w.heap.size, 0, none⟩ = some (.slice la c.loads.length lk) ∧ w'.cell? ⟨w.heap.size, 1, none⟩ = some (.int .i64 c.bears) ∧ w'.cell? ⟨w.heap.size, 2, none⟩ = some (.slice fa c.far.length fk) ∧ w'.cell? ⟨b1, o1' + K, none⟩ = some (.slice (some ⟨b2, o2', none⟩) x.length xc) ∧ w'.cell? ⟨b2, o2' + j, none⟩ = some (.slice ya l.length yc))
                  (first | go_keep | exact HS.out _ (hxj.trans hx2))
                  (first
                    | (go_at_call 62; refine (HLD.out _ (HXW.out.drew) _ l (HIL.out.ext (Ext.refl wr).drew) HLS.out HL5.out).mono ?_; rintro e w2 ⟨rfl, hx2'⟩; have hx2 : Ext wr w2 := ((Ext.refl wr).drew).trans hx2'; clear HLD))
                clear z0 z1 z2 d0 d1
                obtain ⟨z0, z1, z2, d0, d1⟩ := HS.out _ (hxj.trans hx2)
                have hzj := (hxj.trans hx2).size
                go_upto_region 17 with fail
                go_region_held3 (fun w' => w'.cell? ⟨w.heap.size, 0, none⟩ = some (.slice la c.loads.length lk) ∧ w'.cell? ⟨w.heap.size, 1, none⟩ = some (.int .i64 c.bears) ∧ w'.cell? ⟨w.heap.size, 2, none⟩ = some (.slice fa c.far.length fk) ∧ w'.cell? ⟨b1, o1' + K, none⟩ = some (.slice (some ⟨b2, o2', none⟩) x.length xc) ∧ w'.cell? ⟨b2, o2' + j, none⟩ = some (.slice ya l.length yc))
                  (first | exact s8 | go_keep | exact HS.out _ ((hxj.trans hx3)) | exact HS.out _ ((hxj.trans hx3).alloc _))
                  (first
                    | (go_at_call 63; refine (HTO.out _ (HXW.out.trans hx2.drew) _ l (HIL.out.ext hx2.drew) HLS.out HL5.out).mono ?_; rintro e w3 ⟨tv, rfl, hx3', htv⟩; have hx3 : Ext wr w3 := hx2.drew.trans hx3'; obtain ⟨ta, tc, htv', _⟩ := RowAt.of_owns htv; subst htv'; have HTV := Lib.hid htv; clear HTO htv)
                    | (refine step_push_at E_rows (by rfl) _ _ (by rfl) wo.heap.size (by rfl) (owns_ext HPV.out.2.1 hx3) (by rfl) (by rfl) (by rfl) (by simp [Value.oneCell']) ?_ HSZ.out.1 HSZ.out.2 (hxj.trans hx3).size; intro g cap w4 hown4 hg4 hloc4
                       have hx4 : Ext wo w4 := ((hxj.trans hx3).alloc _).grown hg4 (fun g hg => owns_block HPV.out.2.1 g hg)
                       have hL4 := lists_push HPV.out.1 (by rw [HVL.out]; exact owns_ext HPV.out.2.1 hx3) (fun i u xs hu hx => owns_ext (HPV.out.2.2 i u xs hu hx) hx3) (owns_lower HTV.out (by simpa using hzj)) (by rw [HVL.out]; exact hown4) hg4
                       have s8 := HS.out _ hx4
                       have HL4 := Lib.hid hL4
                       clear hL4 hown4 hg4 hloc4))
                all_goals go_wp2
                all_goals (
                  refine ⟨⟨j + 1, by omega, by go_num, by rw [HQ.out] <;> rfl, ?_, hx4⟩, by simp [intOf]; omega⟩
                  have h := HL4.out
                  rw [HVL.out] at h
                  rw [HTS.out]
                  exact h)
              | false =>
                have HQ : Hid (lightB c (x.take (j + 1)) = false) := by unfold Hid; rw [HLI.out, hq, Bool.false_and]
                clear hq
                go_upto_region 16 with fail
                go_quiet (fail)
                have hx2 := (Ext.refl wr).drewN nq
                generalize wr.drewN nq = w2 at *
                clear z0 z1 z2 d0 d1
                obtain ⟨z0, z1, z2, d0, d1⟩ := HS.out _ (hxj.trans hx2)
                have hzj := (hxj.trans hx2).size
                go_upto_region 17 with fail
                go_region_held3 (fun w' => w'.cell? ⟨w.heap.size, 0, none⟩ = some (.slice la c.loads.length lk) ∧ w'.cell? ⟨w.heap.size, 1, none⟩ = some (.int .i64 c.bears) ∧ w'.cell? ⟨w.heap.size, 2, none⟩ = some (.slice fa c.far.length fk) ∧ w'.cell? ⟨b1, o1' + K, none⟩ = some (.slice (some ⟨b2, o2', none⟩) x.length xc) ∧ w'.cell? ⟨b2, o2' + j, none⟩ = some (.slice ya l.length yc))
                  (first | exact s8 | go_keep | exact HS.out _ ((hxj.trans hx3)) | exact HS.out _ ((hxj.trans hx3).alloc _))
                  (first
                    | (go_at_call 63; refine (HTO.out _ (HXW.out.trans hx2.drew) _ l (HIL.out.ext hx2.drew) HLS.out HL5.out).mono ?_; rintro e w3 ⟨tv, rfl, hx3', htv⟩; have hx3 : Ext wr w3 := hx2.drew.trans hx3'; obtain ⟨ta, tc, htv', _⟩ := RowAt.of_owns htv; subst htv'; have HTV := Lib.hid htv; clear HTO htv)
                    | (refine step_push_at E_rows (by rfl) _ _ (by rfl) wo.heap.size (by rfl) (owns_ext HPV.out.2.1 hx3) (by rfl) (by rfl) (by rfl) (by simp [Value.oneCell']) ?_ HSZ.out.1 HSZ.out.2 (hxj.trans hx3).size; intro g cap w4 hown4 hg4 hloc4
                       have hx4 : Ext wo w4 := ((hxj.trans hx3).alloc _).grown hg4 (fun g hg => owns_block HPV.out.2.1 g hg)
                       have hL4 := lists_push HPV.out.1 (by rw [HVL.out]; exact owns_ext HPV.out.2.1 hx3) (fun i u xs hu hx => owns_ext (HPV.out.2.2 i u xs hu hx) hx3) (owns_lower HTV.out (by simpa using hzj)) (by rw [HVL.out]; exact hown4) hg4
                       have s8 := HS.out _ hx4
                       have HL4 := Lib.hid hL4
                       clear hL4 hown4 hg4 hloc4))
                all_goals go_wp2
                all_goals (
                  refine ⟨⟨j + 1, by omega, by go_num, by rw [HQ.out] <;> rfl, ?_, hx4⟩, by simp [intOf]; omega⟩
                  have h := HL4.out
                  rw [HVL.out] at h
                  rw [HTS.out]
                  exact h)
            · have hje : j = x.length := by omega
              have htk : x.take j = x := List.take_of_length_le (by omega)
              rw [htk] at hP ⊢
              have x1 : decide ((j : Int) < (x.length : Int)) = false := by simpa using hlj
              have d0 := hxj.cell HCX.out
              have HXW := Lib.hid ((HX0.out.trans HXO.out).trans hxj)
              have HSO := Lib.hid (rsorted_any u9 (x.map (refTour c)) wr hP.rows (by rw [List.length_map]; omega) (by rw [List.length_map]; omega))
              have HST2 := Lib.hid (planned_stops HST.out)
              have HBR := Lib.hid (HBS.out.ext hxj)
              have HRK := Lib.hid (HRS.out K)
              obtain ⟨ba, bc, hbv, _⟩ := HBS.out.open
              have hxj1 := hxK.trans hxj
              have HCB : Hid (∀ W, Ext wr W → W.cell? ⟨w.heap.size, 0, none⟩ = some (.slice la c.loads.length lk) ∧ W.cell? ⟨w.heap.size, 1, none⟩ = some (.int .i64 c.bears) ∧ W.cell? ⟨w.heap.size, 2, none⟩ = some (.slice fa c.far.length fk)) := fun W h => HBC.out _ (HXO.out.trans (hxj.trans h))
              subst hbv
              clear hje htk hP
              cases hq : lightB c x with
              | false =>
                have HEN : Hid (refUp c (K + 1) = refUp c K) := by unfold Hid; rw [HUS.out, refStep, hq]; rfl
                clear hq
                go_wp2_with (go_at_call 64; refine HSO.out.mono ?_; rintro e w5 ⟨sv, rfl, hx5', hso⟩; obtain ⟨sa, sc, hsv, _⟩ := hso.open; subst hsv; have HSV := Lib.hid hso; clear hso)
                refine ⟨⟨K + 1, by omega, by go_num, by rw [HEN.out]; exact HBR.out.ext hx5', hxj1.trans hx5'⟩, by simp [intOf]; omega⟩
              | true =>
                by_cases hz : (refUp c K).length = 0
                · have HEN : Hid (refUp c (K + 1) = sortL (x.map (refTour c))) := by unfold Hid; rw [HUS.out, refStep, hq, hz]; simp
                  have t1 : (((refUp c K).length : Int) == 0) = true := by rw [beq_iff_eq]; omega
                  have t2 : ((refUp c K).length == 0) = true := by rw [beq_iff_eq]; omega
                  clear hq hz
                  go_wp2_with (go_at_call 64; refine HSO.out.mono ?_; rintro e w5 ⟨sv, rfl, hx5', hso⟩; obtain ⟨sa, sc, hsv, _⟩ := hso.open; subst hsv; have HSV := Lib.hid hso; clear hso)
                  refine ⟨⟨K + 1, by omega, by go_num, by rw [HEN.out]; exact HSV.out, hxj1.trans hx5'⟩, by simp [intOf]; omega⟩
                · have t1 : (((refUp c K).length : Int) == 0) = false := by rw [beq_eq_false_iff_ne]; omega
                  have t2 : ((refUp c K).length == 0) = false := by rw [beq_eq_false_iff_ne]; omega
                  cases hbb : betterR c (sortL (x.map (refTour c))) (refUp c K) with
                  | true =>
                    have HEN : Hid (refUp c (K + 1) = sortL (x.map (refTour c))) := by unfold Hid; rw [HUS.out, refStep, hq, hbb]; simp
                    have HBB := Lib.hid (fun w1 hx u1 u2 h1 h2 s1 s2 => hbb ▸ HBE.out w1 hx u1 u2 (sortL (x.map (refTour c))) (refUp c K) h1 h2 s1 s2)
                    clear hq hz hbb
                    go_wp2_with (first
                      | (go_at_call 64; refine HSO.out.mono ?_; rintro e w5 ⟨sv, rfl, hx5', hso⟩; obtain ⟨sa, sc, hsv, _⟩ := hso.open; subst hsv; have HSV := Lib.hid hso; clear hso; obtain ⟨z0, z1, z2⟩ := HCB.out _ hx5')
                      | (go_at_call 65; refine (HBB.out _ (HXW.out.trans hx5') _ _ HSV.out (HBR.out.ext hx5') HST2.out HRK.out).mono ?_; rintro e w6 ⟨rfl, hx6⟩))
                    refine ⟨⟨K + 1, by omega, by go_num, by rw [HEN.out]; exact HSV.out.ext hx6, hxj1.trans (hx5'.trans hx6)⟩, by simp [intOf]; omega⟩
                  | false =>
                    have HEN : Hid (refUp c (K + 1) = refUp c K) := by unfold Hid; rw [HUS.out, refStep, hq, hbb]; simp [hz]
                    have HBB := Lib.hid (fun w1 hx u1 u2 h1 h2 s1 s2 => hbb ▸ HBE.out w1 hx u1 u2 (sortL (x.map (refTour c))) (refUp c K) h1 h2 s1 s2)
                    clear hq hz hbb
                    go_wp2_with (first
                      | (go_at_call 64; refine HSO.out.mono ?_; rintro e w5 ⟨sv, rfl, hx5', hso⟩; obtain ⟨sa, sc, hsv, _⟩ := hso.open; subst hsv; have HSV := Lib.hid hso; clear hso; obtain ⟨z0, z1, z2⟩ := HCB.out _ hx5')
                      | (go_at_call 65; refine (HBB.out _ (HXW.out.trans hx5') _ _ HSV.out (HBR.out.ext hx5') HST2.out HRK.out).mono ?_; rintro e w6 ⟨rfl, hx6⟩))
                    refine ⟨⟨K + 1, by omega, by go_num, by rw [HEN.out]; exact HBR.out.ext (hx5'.trans hx6), hxj1.trans (hx5'.trans hx6)⟩, by simp [intOf]; omega⟩
        · have HEND := Lib.hid (HRE.out K (by rw [HNN.out]; omega))
          have hb2 : RowsAt wr u6 (optL (bestPlan c)) := by rw [← HEND.out]; exact hbest
          have HB2 := Lib.hid hb2
          obtain ⟨ba, bc, hbv, _⟩ := hb2.open
          subst hbv
          have HD : Hid (decide (0 < (optL (bestPlan c)).length) = decide ((0 : Int) < ((optL (bestPlan c)).length : Int))) := by unfold Hid; simp
          have HXF := Lib.hid ((HX0.out.trans HXA.out).trans (hx1.trans hxK))
          have x1 : decide ((K : Int) < (N : Int)) = false := by simpa using hlt
          clear hbest hb2
          go_wp2
          go_ret2
          exact ⟨_, by rw [HD.out] <;> rfl, HXF.out, HB2.out⟩
end Go.Proofs.YtapkbonlijhmjaaGreatDoor
