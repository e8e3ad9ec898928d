/- search: the walk. -/
import Derived.Test.YtbeophjdiddomaaGreatDoorSearchr
import Derived.Test.YtbeophjdiddomaaGreatDoorOrdersb
namespace Go.Proofs.YtbeophjdiddomaaGreatDoor
open Go.RowKit
attribute [local go_sem] Oper.semAt_some

set_option maxRecDepth 100000 in
set_option maxHeartbeats 8000000 in
theorem search_any (v : Value) (r : Round) (free : Int) (w : World) (hr : RoundAt w v r) (hB : RoundB r) :
    Calls Tryz.prog 40 #[v, .int .i64 free] w (SearchRes r free w) := by
  obtain ⟨hv, rfl, hh⟩ := hr
  unfold Round.cells
  obtain ⟨a, c, rfl, h1, h2, h3⟩ := hh.open
  have hn1 := hB.h1
  have hn2 := hB.h2
  have hl2 := hB.l2
  have hl3 := hB.l3
  have hl1 := hB.l1
  have HH := Lib.hid hh
  have HC3 := Lib.hid h3
  have HB := Lib.hid hB
  have hmm := @run_makeMap Tryz.prog
  obtain ⟨i0, hi, hz0, hz1, hz2⟩ := info_parts info_numbers
  have HSB := Lib.hid (show i0.bytes * r.houses.length ≤ 281474976710656 ∧ r.houses.length ≤ maxLen by rw [hz2]; unfold maxLen; omega)
  clear h3 hh hB
  refine (callsIn_wide (n := 0)).1 ?_
  refine callsIn_of_wp_marks Tryz.func40 rfl trivial ?_ rfl
  simp only [Tryz.ntmps40, List.size_toArray, List.length_cons, List.length_nil, Nat.reduceAdd, Nat.reduceSub, Array.replicate_succ, Array.replicate_zero, List.push_toArray, List.append_toArray, List.nil_append, List.cons_append]
  refine (wpIn_wide (n := 0)).2 ?_
  go_wp2_with (first
    | (refine wpList_make_full _ rfl _ _ _ rfl (w.heap.size + 2) _ i0 _ 1 Tryz.underlying79 hi hz0 hz1 .i64 .i64 _ _ r.houses.length rfl rfl rfl rfl HSB.out.1 HSB.out.2 (by simp) ?_; intro w5 hown5 hg5
       have hI0 := si_start (r := r) (hv := .slice a r.houses.length c) (w := w) (free := free) (hb := w.heap.size + 2) (((Ext.refl w).alloc _).alloc _) (two_new _ _ _).1 (two_new _ _ _).2 hg5 (by omega) (by simpa only [World.size_alloc] using hown5) hn1
       obtain ⟨y0, y1, y2, y3, y4, y5, y6, y7⟩ := hI0.si.r)
    | go_in)
  have hob : w.heap.size + 1 < w5.heap.size := by have := hg5.size; simp at this; omega
  generalize hobe : w5.heap.size = ob at *
  clear hown5 hg5 y0 y1 y2 y3 y4 y5 y6 y7 hobe hi hz0 hz1 hz2 HSB
  refine wp_loop (fun a' W => ∃ (b : Int) (ds : List Deferred) (vals : List Value) (lss : List (List Int)), (r.lo ≤ b ∧ b ≤ r.hi + 1 ∧ SrchI r (.slice a r.houses.length c) w ob (w.heap.size + 2) free b vals lss ds W) ∧ ∃ (u0 u3 u7 u8 u9 u10 u11 u12 u13 u14 u15 u16 u17 u18 u19 u20 u21 u22 u23 u24 u25 u26 u27 u28 u29 u30 u31 u32 u33 u34 u35 u36 u37 u38 u39 u40 u41 u42 u43 u44 u45 u46 u47 u48 u49 u50 u51 u52 u53 u54 u55 u56 u57 u58 u59 u60 u61 u62 u63 u64 u65 u66 u67 u68 u69 u70 u71 u72 u73 u74 u75 u76 u77 u78 u79 u80 u81 u82 u83 u84 u85 u86 u87 u88 u89 u90 u91 u92 u93 u94 u95 u96 u97 u98 u99 u100 u101 u102 u103 u104 u105 u106 u107 u108 u109 u110 u111 u112 u113 u114 u115 u116 u117 u118 u119 u120 u121 u122 u123 u124 u125 u126 u127 u128 u129 u130 u131 u132 u133 u134 u135 : Value), a' = { tmps := (u0 :: .int .i64 free :: .pointer (some ⟨w.heap.size, 0, none⟩) :: u3 :: .pointer (some ⟨w.heap.size + 1, 0, none⟩) :: .pointer (some ⟨ob, 0, none⟩) :: .int .i64 b :: u7 :: u8 :: u9 :: u10 :: u11 :: u12 :: u13 :: u14 :: u15 :: u16 :: u17 :: u18 :: u19 :: u20 :: u21 :: u22 :: u23 :: u24 :: u25 :: u26 :: u27 :: u28 :: u29 :: u30 :: u31 :: u32 :: u33 :: u34 :: u35 :: u36 :: u37 :: u38 :: u39 :: u40 :: u41 :: u42 :: u43 :: u44 :: u45 :: u46 :: u47 :: u48 :: u49 :: u50 :: u51 :: u52 :: u53 :: u54 :: u55 :: u56 :: u57 :: u58 :: u59 :: u60 :: u61 :: u62 :: u63 :: u64 :: u65 :: u66 :: u67 :: u68 :: u69 :: u70 :: u71 :: u72 :: u73 :: u74 :: u75 :: u76 :: u77 :: u78 :: u79 :: u80 :: u81 :: u82 :: u83 :: u84 :: u85 :: u86 :: u87 :: u88 :: u89 :: u90 :: u91 :: u92 :: u93 :: u94 :: u95 :: u96 :: u97 :: u98 :: u99 :: u100 :: u101 :: u102 :: u103 :: u104 :: u105 :: u106 :: u107 :: u108 :: u109 :: u110 :: u111 :: u112 :: u113 :: u114 :: u115 :: u116 :: u117 :: u118 :: u119 :: u120 :: u121 :: u122 :: u123 :: u124 :: u125 :: u126 :: u127 :: u128 :: u129 :: u130 :: u131 :: u132 :: u133 :: u134 :: u135 :: []).toArray, defers := ds }) (fun a' W => (r.hi + 1 - intOf (a'.tmps.getD 6 undef)).toNat) ?_ ?_
  · refine ⟨r.lo, [], _, _, ⟨Int.le_refl _, by omega, hI0⟩, ?_⟩
    (repeat apply Exists.intro)
    rfl
  intro a' wr hinv
  obtain ⟨b, ds, vals, lss, ⟨hb1, hb2, hI⟩, hinv⟩ := hinv
  obtain ⟨u0, hinv⟩ := hinv
  obtain ⟨u3, hinv⟩ := hinv
  obtain ⟨u7, hinv⟩ := hinv
  obtain ⟨u8, hinv⟩ := hinv
  obtain ⟨u9, hinv⟩ := hinv
  obtain ⟨u10, hinv⟩ := hinv
  obtain ⟨u11, hinv⟩ := hinv
  obtain ⟨u12, hinv⟩ := hinv
  obtain ⟨u13, hinv⟩ := hinv
  obtain ⟨u14, hinv⟩ := hinv
  obtain ⟨u15, hinv⟩ := hinv
  obtain ⟨u16, hinv⟩ := hinv
  obtain ⟨u17, hinv⟩ := hinv
  obtain ⟨u18, hinv⟩ := hinv
  obtain ⟨u19, hinv⟩ := hinv
  obtain ⟨u20, hinv⟩ := hinv
  obtain ⟨u21, hinv⟩ := hinv
  obtain ⟨u22, hinv⟩ := hinv
  obtain ⟨u23, hinv⟩ := hinv
  obtain ⟨u24, hinv⟩ := hinv
  obtain ⟨u25, hinv⟩ := hinv
  obtain ⟨u26, hinv⟩ := hinv
  obtain ⟨u27, hinv⟩ := hinv
  obtain ⟨u28, hinv⟩ := hinv
  obtain ⟨u29, hinv⟩ := hinv
  obtain ⟨u30, hinv⟩ := hinv
  obtain ⟨u31, hinv⟩ := hinv
  obtain ⟨u32, hinv⟩ := hinv
  obtain ⟨u33, hinv⟩ := hinv
  obtain ⟨u34, hinv⟩ := hinv
  obtain ⟨u35, hinv⟩ := hinv
  obtain ⟨u36, hinv⟩ := hinv
  obtain ⟨u37, hinv⟩ := hinv
  obtain ⟨u38, hinv⟩ := hinv
  obtain ⟨u39, hinv⟩ := hinv
  obtain ⟨u40, hinv⟩ := hinv
  obtain ⟨u41, hinv⟩ := hinv
  obtain ⟨u42, hinv⟩ := hinv
  obtain ⟨u43, hinv⟩ := hinv
  obtain ⟨u44, hinv⟩ := hinv
  obtain ⟨u45, hinv⟩ := hinv
  obtain ⟨u46, hinv⟩ := hinv
  obtain ⟨u47, hinv⟩ := hinv
  obtain ⟨u48, hinv⟩ := hinv
  obtain ⟨u49, hinv⟩ := hinv
  obtain ⟨u50, hinv⟩ := hinv
  obtain ⟨u51, hinv⟩ := hinv
  obtain ⟨u52, hinv⟩ := hinv
  obtain ⟨u53, hinv⟩ := hinv
  obtain ⟨u54, hinv⟩ := hinv
  obtain ⟨u55, hinv⟩ := hinv
  obtain ⟨u56, hinv⟩ := hinv
  obtain ⟨u57, hinv⟩ := hinv
  obtain ⟨u58, hinv⟩ := hinv
  obtain ⟨u59, hinv⟩ := hinv
  obtain ⟨u60, hinv⟩ := hinv
  obtain ⟨u61, hinv⟩ := hinv
  obtain ⟨u62, hinv⟩ := hinv
  obtain ⟨u63, hinv⟩ := hinv
  obtain ⟨u64, hinv⟩ := hinv
  obtain ⟨u65, hinv⟩ := hinv
  obtain ⟨u66, hinv⟩ := hinv
  obtain ⟨u67, hinv⟩ := hinv
  obtain ⟨u68, hinv⟩ := hinv
  obtain ⟨u69, hinv⟩ := hinv
  obtain ⟨u70, hinv⟩ := hinv
  obtain ⟨u71, hinv⟩ := hinv
  obtain ⟨u72, hinv⟩ := hinv
  obtain ⟨u73, hinv⟩ := hinv
  obtain ⟨u74, hinv⟩ := hinv
  obtain ⟨u75, hinv⟩ := hinv
  obtain ⟨u76, hinv⟩ := hinv
  obtain ⟨u77, hinv⟩ := hinv
  obtain ⟨u78, hinv⟩ := hinv
  obtain ⟨u79, hinv⟩ := hinv
  obtain ⟨u80, hinv⟩ := hinv
  obtain ⟨u81, hinv⟩ := hinv
  obtain ⟨u82, hinv⟩ := hinv
  obtain ⟨u83, hinv⟩ := hinv
  obtain ⟨u84, hinv⟩ := hinv
  obtain ⟨u85, hinv⟩ := hinv
  obtain ⟨u86, hinv⟩ := hinv
  obtain ⟨u87, hinv⟩ := hinv
  obtain ⟨u88, hinv⟩ := hinv
  obtain ⟨u89, hinv⟩ := hinv
  obtain ⟨u90, hinv⟩ := hinv
  obtain ⟨u91, hinv⟩ := hinv
  obtain ⟨u92, hinv⟩ := hinv
  obtain ⟨u93, hinv⟩ := hinv
  obtain ⟨u94, hinv⟩ := hinv
  obtain ⟨u95, hinv⟩ := hinv
  obtain ⟨u96, hinv⟩ := hinv
  obtain ⟨u97, hinv⟩ := hinv
  obtain ⟨u98, hinv⟩ := hinv
  obtain ⟨u99, hinv⟩ := hinv
  obtain ⟨u100, hinv⟩ := hinv
  obtain ⟨u101, hinv⟩ := hinv
  obtain ⟨u102, hinv⟩ := hinv
  obtain ⟨u103, hinv⟩ := hinv
  obtain ⟨u104, hinv⟩ := hinv
  obtain ⟨u105, hinv⟩ := hinv
  obtain ⟨u106, hinv⟩ := hinv
  obtain ⟨u107, hinv⟩ := hinv
  obtain ⟨u108, hinv⟩ := hinv
  obtain ⟨u109, hinv⟩ := hinv
  obtain ⟨u110, hinv⟩ := hinv
  obtain ⟨u111, hinv⟩ := hinv
  obtain ⟨u112, hinv⟩ := hinv
  obtain ⟨u113, hinv⟩ := hinv
  obtain ⟨u114, hinv⟩ := hinv
  obtain ⟨u115, hinv⟩ := hinv
  obtain ⟨u116, hinv⟩ := hinv
  obtain ⟨u117, hinv⟩ := hinv
  obtain ⟨u118, hinv⟩ := hinv
  obtain ⟨u119, hinv⟩ := hinv
  obtain ⟨u120, hinv⟩ := hinv
  obtain ⟨u121, hinv⟩ := hinv
  obtain ⟨u122, hinv⟩ := hinv
  obtain ⟨u123, hinv⟩ := hinv
  obtain ⟨u124, hinv⟩ := hinv
  obtain ⟨u125, hinv⟩ := hinv
  obtain ⟨u126, hinv⟩ := hinv
  obtain ⟨u127, hinv⟩ := hinv
  obtain ⟨u128, hinv⟩ := hinv
  obtain ⟨u129, hinv⟩ := hinv
  obtain ⟨u130, hinv⟩ := hinv
  obtain ⟨u131, hinv⟩ := hinv
  obtain ⟨u132, hinv⟩ := hinv
  obtain ⟨u133, hinv⟩ := hinv
  obtain ⟨u134, hinv⟩ := hinv
  obtain ⟨u135, hinv⟩ := hinv
  subst hinv
  try dsimp only
  clear hI0
  have hobr : ob < wr.heap.size := lt_of_cell hI.si.out.c0
  obtain ⟨y0, y1, y2, y3, y4, y5, y6, y7⟩ := hI.si.r
  by_cases hbl : b ≤ r.hi
  · have x1 : decide (b ≤ r.hi) = true := by simpa using hbl
    have HI := Lib.hid hI
    clear hI
    have hEb : Ext wr (wr.alloc (.cells #[.int .i64 r.per, .int .i64 r.lo, .int .i64 r.hi, .int .i64 r.card, .int .i64 r.slack, .slice a r.houses.length c, .int .i64 r.all, .int .i64 r.off, .int .i64 b] 89)) := (Ext.refl wr).alloc _
    have z5 := hEb.cell y5
    go_wp2_with go_in
    have hWB : WeighBox r (.slice a r.houses.length c) b wr.heap.size (wr.alloc (.cells #[.int .i64 r.per, .int .i64 r.lo, .int .i64 r.hi, .int .i64 r.card, .int .i64 r.slack, .slice a r.houses.length c, .int .i64 r.all, .int .i64 r.off, .int .i64 b] 89)) := World.alloc_heap_new wr _
    have hS1 := HI.out.si.keep hEb
    generalize (wr.alloc (.cells #[.int .i64 r.per, .int .i64 r.lo, .int .i64 r.hi, .int .i64 r.card, .int .i64 r.slack, .slice a r.houses.length c, .int .i64 r.all, .int .i64 r.off, .int .i64 b] 89)) = wp at *
    generalize hwbe : wr.heap.size = wb at *
    clear y0 y1 y2 y3 y4 y5 y6 y7 z5 hEb x1
    refine wp_loop (fun a' W => ∃ (k : Nat) (ds : List Deferred) (ov : Value) (bs : List Nat), (k ≤ r.houses.length ∧ SI r (.slice a r.houses.length c) w ob (w.heap.size + 2) vals lss ds W ∧ OwnI r free b (ob + 1) ov k bs W ∧ WeighBox r (.slice a r.houses.length c) b wb W) ∧ ∃ (u0 u3 u9 u10 u11 u12 u13 u14 u15 u16 u17 u18 u19 u20 u21 u22 u23 u24 u25 u26 u27 u28 u29 u30 u31 u32 u33 u34 u35 u36 u37 u38 u42 u43 u44 u45 u46 u47 u48 u49 u50 u51 u52 u53 u54 u55 u56 u57 u58 u59 u60 u61 u62 u63 u64 u65 u66 u67 u68 u69 u70 u71 u72 u73 u74 u75 u76 u77 u78 u79 u80 u81 u82 u83 u84 u85 u86 u87 u88 u89 u90 u91 u92 u93 u94 u95 u96 u97 u98 u99 u100 u101 u102 u103 u104 u105 u106 u107 u108 u109 u110 u111 u112 u113 u114 u115 u116 u117 u118 u119 u120 u121 u122 u123 u124 u125 u126 u127 u128 u129 u130 u131 u132 u133 u134 u135 : Value), a' = { tmps := (u0 :: .int .i64 free :: .pointer (some ⟨w.heap.size, 0, none⟩) :: u3 :: .pointer (some ⟨w.heap.size + 1, 0, none⟩) :: .pointer (some ⟨ob, 0, none⟩) :: .int .i64 b :: .pointer (some ⟨wb, 0, none⟩) :: ov :: u9 :: u10 :: u11 :: u12 :: u13 :: u14 :: u15 :: u16 :: u17 :: u18 :: u19 :: u20 :: u21 :: u22 :: u23 :: u24 :: u25 :: u26 :: u27 :: u28 :: u29 :: u30 :: u31 :: u32 :: u33 :: u34 :: u35 :: u36 :: u37 :: u38 :: (.slice a r.houses.length c) :: .int .i64 r.houses.length :: .int .i64 k :: u42 :: u43 :: u44 :: u45 :: u46 :: u47 :: u48 :: u49 :: u50 :: u51 :: u52 :: u53 :: u54 :: u55 :: u56 :: u57 :: u58 :: u59 :: u60 :: u61 :: u62 :: u63 :: u64 :: u65 :: u66 :: u67 :: u68 :: u69 :: u70 :: u71 :: u72 :: u73 :: u74 :: u75 :: u76 :: u77 :: u78 :: u79 :: u80 :: u81 :: u82 :: u83 :: u84 :: u85 :: u86 :: u87 :: u88 :: u89 :: u90 :: u91 :: u92 :: u93 :: u94 :: u95 :: u96 :: u97 :: u98 :: u99 :: u100 :: u101 :: u102 :: u103 :: u104 :: u105 :: u106 :: u107 :: u108 :: u109 :: u110 :: u111 :: u112 :: u113 :: u114 :: u115 :: u116 :: u117 :: u118 :: u119 :: u120 :: u121 :: u122 :: u123 :: u124 :: u125 :: u126 :: u127 :: u128 :: u129 :: u130 :: u131 :: u132 :: u133 :: u134 :: u135 :: []).toArray, defers := ds }) (fun a' W => r.houses.length - (intOf (a'.tmps.getD 41 undef)).toNat) ?_ ?_
    · refine ⟨0, ds, _, [], ⟨Nat.zero_le _, hS1, OwnI.nil _ _ _ _ _, hWB⟩, ?_⟩
      (repeat apply Exists.intro)
      rfl
    · intro a' wq hinv
      obtain ⟨k, ds, ov, bs, ⟨hk, hS, hO, hW⟩, hinv⟩ := hinv
      obtain ⟨u0, hinv⟩ := hinv
      obtain ⟨u3, hinv⟩ := hinv
      obtain ⟨u9, hinv⟩ := hinv
      obtain ⟨u10, hinv⟩ := hinv
      obtain ⟨u11, hinv⟩ := hinv
      obtain ⟨u12, hinv⟩ := hinv
      obtain ⟨u13, hinv⟩ := hinv
      obtain ⟨u14, hinv⟩ := hinv
      obtain ⟨u15, hinv⟩ := hinv
      obtain ⟨u16, hinv⟩ := hinv
      obtain ⟨u17, hinv⟩ := hinv
      obtain ⟨u18, hinv⟩ := hinv
      obtain ⟨u19, hinv⟩ := hinv
      obtain ⟨u20, hinv⟩ := hinv
      obtain ⟨u21, hinv⟩ := hinv
      obtain ⟨u22, hinv⟩ := hinv
      obtain ⟨u23, hinv⟩ := hinv
      obtain ⟨u24, hinv⟩ := hinv
      obtain ⟨u25, hinv⟩ := hinv
      obtain ⟨u26, hinv⟩ := hinv
      obtain ⟨u27, hinv⟩ := hinv
      obtain ⟨u28, hinv⟩ := hinv
      obtain ⟨u29, hinv⟩ := hinv
      obtain ⟨u30, hinv⟩ := hinv
      obtain ⟨u31, hinv⟩ := hinv
      obtain ⟨u32, hinv⟩ := hinv
      obtain ⟨u33, hinv⟩ := hinv
      obtain ⟨u34, hinv⟩ := hinv
      obtain ⟨u35, hinv⟩ := hinv
      obtain ⟨u36, hinv⟩ := hinv
      obtain ⟨u37, hinv⟩ := hinv
      obtain ⟨u38, hinv⟩ := hinv
      obtain ⟨u42, hinv⟩ := hinv
      obtain ⟨u43, hinv⟩ := hinv
      obtain ⟨u44, hinv⟩ := hinv
      obtain ⟨u45, hinv⟩ := hinv
      obtain ⟨u46, hinv⟩ := hinv
      obtain ⟨u47, hinv⟩ := hinv
      obtain ⟨u48, hinv⟩ := hinv
      obtain ⟨u49, hinv⟩ := hinv
      obtain ⟨u50, hinv⟩ := hinv
      obtain ⟨u51, hinv⟩ := hinv
      obtain ⟨u52, hinv⟩ := hinv
      obtain ⟨u53, hinv⟩ := hinv
      obtain ⟨u54, hinv⟩ := hinv
      obtain ⟨u55, hinv⟩ := hinv
      obtain ⟨u56, hinv⟩ := hinv
      obtain ⟨u57, hinv⟩ := hinv
      obtain ⟨u58, hinv⟩ := hinv
      obtain ⟨u59, hinv⟩ := hinv
      obtain ⟨u60, hinv⟩ := hinv
      obtain ⟨u61, hinv⟩ := hinv
      obtain ⟨u62, hinv⟩ := hinv
      obtain ⟨u63, hinv⟩ := hinv
      obtain ⟨u64, hinv⟩ := hinv
      obtain ⟨u65, hinv⟩ := hinv
      obtain ⟨u66, hinv⟩ := hinv
      obtain ⟨u67, hinv⟩ := hinv
      obtain ⟨u68, hinv⟩ := hinv
      obtain ⟨u69, hinv⟩ := hinv
      obtain ⟨u70, hinv⟩ := hinv
      obtain ⟨u71, hinv⟩ := hinv
      obtain ⟨u72, hinv⟩ := hinv
      obtain ⟨u73, hinv⟩ := hinv
      obtain ⟨u74, hinv⟩ := hinv
      obtain ⟨u75, hinv⟩ := hinv
      obtain ⟨u76, hinv⟩ := hinv
      obtain ⟨u77, hinv⟩ := hinv
      obtain ⟨u78, hinv⟩ := hinv
      obtain ⟨u79, hinv⟩ := hinv
      obtain ⟨u80, hinv⟩ := hinv
      obtain ⟨u81, hinv⟩ := hinv
      obtain ⟨u82, hinv⟩ := hinv
      obtain ⟨u83, hinv⟩ := hinv
      obtain ⟨u84, hinv⟩ := hinv
      obtain ⟨u85, hinv⟩ := hinv
      obtain ⟨u86, hinv⟩ := hinv
      obtain ⟨u87, hinv⟩ := hinv
      obtain ⟨u88, hinv⟩ := hinv
      obtain ⟨u89, hinv⟩ := hinv
      obtain ⟨u90, hinv⟩ := hinv
      obtain ⟨u91, hinv⟩ := hinv
      obtain ⟨u92, hinv⟩ := hinv
      obtain ⟨u93, hinv⟩ := hinv
      obtain ⟨u94, hinv⟩ := hinv
      obtain ⟨u95, hinv⟩ := hinv
      obtain ⟨u96, hinv⟩ := hinv
      obtain ⟨u97, hinv⟩ := hinv
      obtain ⟨u98, hinv⟩ := hinv
      obtain ⟨u99, hinv⟩ := hinv
      obtain ⟨u100, hinv⟩ := hinv
      obtain ⟨u101, hinv⟩ := hinv
      obtain ⟨u102, hinv⟩ := hinv
      obtain ⟨u103, hinv⟩ := hinv
      obtain ⟨u104, hinv⟩ := hinv
      obtain ⟨u105, hinv⟩ := hinv
      obtain ⟨u106, hinv⟩ := hinv
      obtain ⟨u107, hinv⟩ := hinv
      obtain ⟨u108, hinv⟩ := hinv
      obtain ⟨u109, hinv⟩ := hinv
      obtain ⟨u110, hinv⟩ := hinv
      obtain ⟨u111, hinv⟩ := hinv
      obtain ⟨u112, hinv⟩ := hinv
      obtain ⟨u113, hinv⟩ := hinv
      obtain ⟨u114, hinv⟩ := hinv
      obtain ⟨u115, hinv⟩ := hinv
      obtain ⟨u116, hinv⟩ := hinv
      obtain ⟨u117, hinv⟩ := hinv
      obtain ⟨u118, hinv⟩ := hinv
      obtain ⟨u119, hinv⟩ := hinv
      obtain ⟨u120, hinv⟩ := hinv
      obtain ⟨u121, hinv⟩ := hinv
      obtain ⟨u122, hinv⟩ := hinv
      obtain ⟨u123, hinv⟩ := hinv
      obtain ⟨u124, hinv⟩ := hinv
      obtain ⟨u125, hinv⟩ := hinv
      obtain ⟨u126, hinv⟩ := hinv
      obtain ⟨u127, hinv⟩ := hinv
      obtain ⟨u128, hinv⟩ := hinv
      obtain ⟨u129, hinv⟩ := hinv
      obtain ⟨u130, hinv⟩ := hinv
      obtain ⟨u131, hinv⟩ := hinv
      obtain ⟨u132, hinv⟩ := hinv
      obtain ⟨u133, hinv⟩ := hinv
      obtain ⟨u134, hinv⟩ := hinv
      obtain ⟨u135, hinv⟩ := hinv
      subst hinv
      try dsimp only
      clear hS1 hWB hwbe
      obtain ⟨w0', w1', w2', w3', w4', w5', w6', w7', w8'⟩ := hW.r
      have hwbs : wb < wq.heap.size := lt_of_cell w0'
      by_cases hkl : k < r.houses.length
      ·
--[dev
        obtain ⟨hb', ho', x, rfl, hx, d0, d1, d2, d3, d4, d5⟩ := HC3.out k hkl
        have e0 := hS.ext.cell d0
        have e1 := hS.ext.cell d1
        have e2 := hS.ext.cell d2
        have e3 := hS.ext.cell d3
        have e4 := hS.ext.cell d4
        have e5 := hS.ext.cell d5
        have x2 : decide ((k : Int) < (r.houses.length : Int)) = true := by simpa using hkl
        have hE3 : Ext wq (((wq.alloc (.cells #[.int .i64 x.out, .int .i64 x.cards, .int .i64 x.full, .int .i64 x.loose, .int .i64 x.miss, .int .i64 x.weighed] 31)).alloc (.map #[] 0)).alloc (.cells #[.map (some (wq.heap.size + 1))] 130)) := (((Ext.refl wq).alloc _).alloc _).alloc _
        have v0 := hE3.cell w0'
        have v1 := hE3.cell w1'
        have v2 := hE3.cell w2'
        have v3 := hE3.cell w3'
        have v4 := hE3.cell w4'
        have v5 := hE3.cell w5'
        have v6 := hE3.cell w6'
        have v7 := hE3.cell w7'
        have v8 := hE3.cell w8'
        have HS := Lib.hid hS
        have HO := Lib.hid hO
        have HW := Lib.hid hW
        clear w0' w1' w2' w3' w4' w5' w6' w7' w8' hS hO hW d0 d1 d2 d3 d4 d5
        go_wp2_with (first
          | (go_at_call 81; refine (ways_any r _ b x (decide ((k : Int) = free)) _ ⟨_, _, _, rfl⟩).mono ?_; rintro e w1 ⟨hb2', wb2, fb2, rfl, hx1, z1, z2, z3, hEnv⟩)
          | go_in)
        have hb1z : wq.heap.size + 3 ≤ w1.heap.size := by have := hx1.size; simpa using this
        have hE1 := hE3.trans hx1
        have hset0 : SetAt w1 (wq.heap.size + 1) (fun _ => False) := (SetAt.ext (SetAt.ext (by have := set_made (wq.alloc (.cells #[.int .i64 x.out, .int .i64 x.cards, .int .i64 x.full, .int .i64 x.loose, .int .i64 x.miss, .int .i64 x.weighed] 31)); rwa [World.size_alloc] at this) ((Ext.refl _).alloc _)) hx1)
        have c11 := hx1.cell (a := ⟨wq.heap.size + 1 + 1, 0, none⟩) (v := .map (some (wq.heap.size + 1))) (by go_simp)
        have hmem := List.mem_of_getElem? hx.out
        have hbad := HB.out.hs x hmem
        have hI1 : WayI r b x (decide ((k : Int) = free)) (wq.heap.size + 1) w1 0 w1 := ⟨Touch.refl _ _, hset0.congr firstS_zero⟩
        have z1' : wq.heap.size + 3 ≤ hb2' := by simpa using z1
        have z2' : wq.heap.size + 3 ≤ wb2 := by simpa using z2
        have z3' : wq.heap.size + 3 ≤ fb2 := by simpa using z3
        have zl1 := lt_of_cell hEnv.h0
        have zl2 := lt_of_cell hEnv.w0
        have zl3 := lt_of_cell hEnv.f
        clear z1 z2 z3 hx1 v0 v1 v2 v3 v4 v5 v6 v7 v8 hE3 e0 e1 e2 e3 e4 e5
        have HE1 := Lib.hid hE1
        have HSET := Lib.hid hset0
        clear hset0
        refine (wpIn_wide (n := 0)).1 ?_
        refine wpIn_range (gf := 108) (lb := #[.pointer (some ⟨hb2', 0, none⟩), .pointer (some ⟨wb2, 0, none⟩), .pointer (some ⟨fb2, 0, none⟩)]) (by rfl) enters_ways1 (fun _ x v => v = broughtV x.1 x.2) (waysOf r b x (decide ((k : Int) = free))) (fun i => i = wq.heap.size + 1) ?hM ?hiter
          (fun j A => WayI r b x (decide ((k : Int) = free)) (wq.heap.size + 1) w1 j A) (fun _ _ => False) ?hI (fun _ _ _ h => h.elim) hI1
          (fun _ y v a' A => ∃ bb, (v = broughtV y.1 y.2 ∧ A.cell? ⟨bb, 0, none⟩ = some (.int .i64 y.1) ∧ A.cell? ⟨bb, 1, none⟩ = some (.int .i64 y.2)) ∧ ∃ (u0 u1 u2 u3 u4 u5 u6 u8 u9 u10 u13 u14 u15 u16 u17 u18 u19 u20 u21 u22 u23 u24 u25 u26 u27 u28 u29 u30 u31 u32 u33 u34 u35 u36 u37 u38 u39 u40 u41 u42 u43 u44 u45 u46 u47 u48 u49 u50 u51 u52 u53 u54 u55 u56 u57 u58 u59 u60 u61 u62 u63 u64 u65 u66 u67 u68 u69 u70 u71 u72 u73 u74 u75 u76 u77 u78 u79 u80 u81 u82 u83 u84 u85 u86 u87 u88 u89 u90 u91 u92 u93 u94 u95 u96 u97 u98 u99 u100 u101 u102 u103 u104 u105 u106 u107 u108 u109 u110 u111 u112 u113 u114 u115 u116 u117 u118 u119 u120 u121 u122 u123 u124 u125 u126 u127 u128 u129 u130 u131 u132 u133 u134 u135 : Value), a' = { tmps := (u0 :: u1 :: u2 :: u3 :: u4 :: u5 :: u6 :: .pointer (some ⟨wb, 0, none⟩) :: u8 :: u9 :: u10 :: .pointer (some ⟨wq.heap.size + 1 + 1, 0, none⟩) :: .pointer (some ⟨bb, 0, none⟩) :: u13 :: u14 :: u15 :: u16 :: u17 :: u18 :: u19 :: u20 :: u21 :: u22 :: u23 :: u24 :: u25 :: u26 :: u27 :: u28 :: u29 :: u30 :: u31 :: u32 :: u33 :: u34 :: u35 :: u36 :: u37 :: u38 :: u39 :: u40 :: u41 :: u42 :: u43 :: u44 :: u45 :: u46 :: u47 :: u48 :: u49 :: u50 :: u51 :: u52 :: u53 :: u54 :: u55 :: u56 :: u57 :: u58 :: u59 :: u60 :: u61 :: u62 :: u63 :: u64 :: u65 :: u66 :: u67 :: u68 :: u69 :: u70 :: u71 :: u72 :: u73 :: u74 :: u75 :: u76 :: u77 :: u78 :: u79 :: u80 :: u81 :: u82 :: u83 :: u84 :: u85 :: u86 :: u87 :: u88 :: u89 :: u90 :: u91 :: u92 :: u93 :: u94 :: u95 :: u96 :: u97 :: u98 :: u99 :: u100 :: u101 :: u102 :: u103 :: u104 :: u105 :: u106 :: u107 :: u108 :: u109 :: u110 :: u111 :: u112 :: u113 :: u114 :: u115 :: u116 :: u117 :: u118 :: u119 :: u120 :: u121 :: u122 :: u123 :: u124 :: u125 :: u126 :: u127 :: u128 :: u129 :: u130 :: u131 :: u132 :: u133 :: u134 :: u135 :: []).toArray, defers := [] }) ?hAx ?hassign ?hbody ?hdone ?hstop
        case hM => intro i hi; omega
        case hiter =>
          intro W1 q1 q2
          refine ways_iter r _ b x _ hb2' wb2 fb2 W1 _ HB.out hb1 hbl hbad ⟨_, _, _, rfl⟩ (hEnv.ext q1) ?_ ?_ ?_
          · simp only at zl1; omega
          · simp only at zl2; omega
          · simp only at zl3; omega
        case hI => intro j A B h q; exact h.quiet q (Nat.le_refl _) (by omega)
        case hAx => rintro j y v a' A B ⟨bb, ⟨g1, g2, g3⟩, h⟩ q; exact ⟨bb, ⟨g1, q.cell g2, q.cell g3⟩, h⟩
        case hstop => rintro D cd A hD h; exact h.elim
        case hassign =>
          rintro l' j y v A K hi hy rfl hK
          have HK := Lib.hid hK
          clear hK
          unfold broughtV
          gi_wp2
          refine HK.out _ (A.alloc (.cells #[.int .i64 y.1, .int .i64 y.2] 91)) ((Ext.refl A).alloc _) ⟨A.heap.size, ⟨(by first | rfl | trivial), by go_simp, by go_simp⟩, ?_⟩
          (repeat apply Exists.intro)
          rfl
        case hbody =>
          rintro l' j y v a' A hl ⟨rr, hr⟩ hi hy ⟨bb, ⟨rfl, g2, g3⟩, hA⟩ hsz
          obtain ⟨u0, hA⟩ := hA
          obtain ⟨u1, hA⟩ := hA
          obtain ⟨u2, hA⟩ := hA
          obtain ⟨u3, hA⟩ := hA
          obtain ⟨u4, hA⟩ := hA
          obtain ⟨u5, hA⟩ := hA
          obtain ⟨u6, hA⟩ := hA
          obtain ⟨u8, hA⟩ := hA
          obtain ⟨u9, hA⟩ := hA
          obtain ⟨u10, hA⟩ := hA
          obtain ⟨u13, hA⟩ := hA
          obtain ⟨u14, hA⟩ := hA
          obtain ⟨u15, hA⟩ := hA
          obtain ⟨u16, hA⟩ := hA
          obtain ⟨u17, hA⟩ := hA
          obtain ⟨u18, hA⟩ := hA
          obtain ⟨u19, hA⟩ := hA
          obtain ⟨u20, hA⟩ := hA
          obtain ⟨u21, hA⟩ := hA
          obtain ⟨u22, hA⟩ := hA
          obtain ⟨u23, hA⟩ := hA
          obtain ⟨u24, hA⟩ := hA
          obtain ⟨u25, hA⟩ := hA
          obtain ⟨u26, hA⟩ := hA
          obtain ⟨u27, hA⟩ := hA
          obtain ⟨u28, hA⟩ := hA
          obtain ⟨u29, hA⟩ := hA
          obtain ⟨u30, hA⟩ := hA
          obtain ⟨u31, hA⟩ := hA
          obtain ⟨u32, hA⟩ := hA
          obtain ⟨u33, hA⟩ := hA
          obtain ⟨u34, hA⟩ := hA
          obtain ⟨u35, hA⟩ := hA
          obtain ⟨u36, hA⟩ := hA
          obtain ⟨u37, hA⟩ := hA
          obtain ⟨u38, hA⟩ := hA
          obtain ⟨u39, hA⟩ := hA
          obtain ⟨u40, hA⟩ := hA
          obtain ⟨u41, hA⟩ := hA
          obtain ⟨u42, hA⟩ := hA
          obtain ⟨u43, hA⟩ := hA
          obtain ⟨u44, hA⟩ := hA
          obtain ⟨u45, hA⟩ := hA
          obtain ⟨u46, hA⟩ := hA
          obtain ⟨u47, hA⟩ := hA
          obtain ⟨u48, hA⟩ := hA
          obtain ⟨u49, hA⟩ := hA
          obtain ⟨u50, hA⟩ := hA
          obtain ⟨u51, hA⟩ := hA
          obtain ⟨u52, hA⟩ := hA
          obtain ⟨u53, hA⟩ := hA
          obtain ⟨u54, hA⟩ := hA
          obtain ⟨u55, hA⟩ := hA
          obtain ⟨u56, hA⟩ := hA
          obtain ⟨u57, hA⟩ := hA
          obtain ⟨u58, hA⟩ := hA
          obtain ⟨u59, hA⟩ := hA
          obtain ⟨u60, hA⟩ := hA
          obtain ⟨u61, hA⟩ := hA
          obtain ⟨u62, hA⟩ := hA
          obtain ⟨u63, hA⟩ := hA
          obtain ⟨u64, hA⟩ := hA
          obtain ⟨u65, hA⟩ := hA
          obtain ⟨u66, hA⟩ := hA
          obtain ⟨u67, hA⟩ := hA
          obtain ⟨u68, hA⟩ := hA
          obtain ⟨u69, hA⟩ := hA
          obtain ⟨u70, hA⟩ := hA
          obtain ⟨u71, hA⟩ := hA
          obtain ⟨u72, hA⟩ := hA
          obtain ⟨u73, hA⟩ := hA
          obtain ⟨u74, hA⟩ := hA
          obtain ⟨u75, hA⟩ := hA
          obtain ⟨u76, hA⟩ := hA
          obtain ⟨u77, hA⟩ := hA
          obtain ⟨u78, hA⟩ := hA
          obtain ⟨u79, hA⟩ := hA
          obtain ⟨u80, hA⟩ := hA
          obtain ⟨u81, hA⟩ := hA
          obtain ⟨u82, hA⟩ := hA
          obtain ⟨u83, hA⟩ := hA
          obtain ⟨u84, hA⟩ := hA
          obtain ⟨u85, hA⟩ := hA
          obtain ⟨u86, hA⟩ := hA
          obtain ⟨u87, hA⟩ := hA
          obtain ⟨u88, hA⟩ := hA
          obtain ⟨u89, hA⟩ := hA
          obtain ⟨u90, hA⟩ := hA
          obtain ⟨u91, hA⟩ := hA
          obtain ⟨u92, hA⟩ := hA
          obtain ⟨u93, hA⟩ := hA
          obtain ⟨u94, hA⟩ := hA
          obtain ⟨u95, hA⟩ := hA
          obtain ⟨u96, hA⟩ := hA
          obtain ⟨u97, hA⟩ := hA
          obtain ⟨u98, hA⟩ := hA
          obtain ⟨u99, hA⟩ := hA
          obtain ⟨u100, hA⟩ := hA
          obtain ⟨u101, hA⟩ := hA
          obtain ⟨u102, hA⟩ := hA
          obtain ⟨u103, hA⟩ := hA
          obtain ⟨u104, hA⟩ := hA
          obtain ⟨u105, hA⟩ := hA
          obtain ⟨u106, hA⟩ := hA
          obtain ⟨u107, hA⟩ := hA
          obtain ⟨u108, hA⟩ := hA
          obtain ⟨u109, hA⟩ := hA
          obtain ⟨u110, hA⟩ := hA
          obtain ⟨u111, hA⟩ := hA
          obtain ⟨u112, hA⟩ := hA
          obtain ⟨u113, hA⟩ := hA
          obtain ⟨u114, hA⟩ := hA
          obtain ⟨u115, hA⟩ := hA
          obtain ⟨u116, hA⟩ := hA
          obtain ⟨u117, hA⟩ := hA
          obtain ⟨u118, hA⟩ := hA
          obtain ⟨u119, hA⟩ := hA
          obtain ⟨u120, hA⟩ := hA
          obtain ⟨u121, hA⟩ := hA
          obtain ⟨u122, hA⟩ := hA
          obtain ⟨u123, hA⟩ := hA
          obtain ⟨u124, hA⟩ := hA
          obtain ⟨u125, hA⟩ := hA
          obtain ⟨u126, hA⟩ := hA
          obtain ⟨u127, hA⟩ := hA
          obtain ⟨u128, hA⟩ := hA
          obtain ⟨u129, hA⟩ := hA
          obtain ⟨u130, hA⟩ := hA
          obtain ⟨u131, hA⟩ := hA
          obtain ⟨u132, hA⟩ := hA
          obtain ⟨u133, hA⟩ := hA
          obtain ⟨u134, hA⟩ := hA
          obtain ⟨u135, hA⟩ := hA
          subst hA
          try dsimp only
          obtain ⟨t0, t1, t2, t3, t4, t5, t6, t7, t8⟩ := ((HW.out.ext HE1.out).grown hi.touch.grown1 (by omega)).r
          have c11' := hi.touch.cell c11 (by simp only; omega)
          obtain ⟨⟨p1, p2⟩, ⟨p3, p4⟩, p5, p6⟩ := way_good HB.out hbad (List.mem_of_getElem? hy)
          have hp1 := HB.out.p1
          have hp2 := HB.out.p2
          have HBU := Lib.hid (buttons_any r (.slice (some ⟨hb', ho', none⟩) r.houses.length c) b y.1 y.2 A (by omega) hp2 p1 p2 p3 p4)
          have HI2 := Lib.hid hi
          have HY := Lib.hid hy
          clear hi hy c11 p1 p2 p3 p4 hp1 hp2
          gi_wp2_with (first
            | (gi_at_call 48; refine (callsIn_wide.2 HBU.out).mono ?_; rintro e A2 ⟨rfl, hxA⟩; have c12 := hxA.cell c11'; have hset2 := HI2.out.set.ext hxA)
            | (refine wpListIn_set_store rfl _ _ _ rfl rfl hset2 rfl rfl p5 p6 ?_; intro A3 hs3 hg3))
          exact ⟨(Touch.of_ext hxA).trans (Touch.grown hg3 (fun i hi => by cases hi; rfl)), (HI2.out.touch.trans (Touch.of_ext hxA)).trans (Touch.grown hg3 (fun i hi => by cases hi; rfl)), hs3.congr (firstS_succ HY.out)⟩
        case hdone =>
          intro D A hD hi hd
          have hS2 := HS.out.ways (free := decide ((k : Int) = free)) HE1.out (by omega) HSET.out hi hD hd
          have hgr := hi.touch.grown1
          have hsetA : SetAt A (wq.heap.size + 1) (ownS r free b k) := hi.set.congr (fun n => firstS_all hx.out n)
          have hWA := (HW.out.ext HE1.out).grown hgr (by omega)
          have hOA : OwnI r free b (ob + 1) ov k bs A := by
            have h0 := HO.out.ext HE1.out
            have hE2 : Ext wq A := hi.touch.ext HE1.out (fun i hi => by omega)
            exact HO.out.ext hE2
          have c12 := hi.touch.cell c11 (by simp only; omega)
          have hAz : ob + 1 ≤ A.heap.size := by have := hi.touch.size; omega
          have HS2 := Lib.hid hS2
          have HSA := Lib.hid hsetA
          have HWA := Lib.hid hWA
          have HOA := Lib.hid hOA
          have HSZ := Lib.hid (show k + 1 ≤ maxLen ∧ (k + 1) * 8 ≤ 140737488355328 by unfold maxLen; omega)
          clear hS2 hgr hsetA hWA hOA hi hEnv c11 hd
          try dsimp only
          go_wp2_with (first
            | (at_builtin; refine wpList_push_at E_sets rfl _ _ rfl (ob + 1) rfl (HOA.out.own) rfl rfl rfl (by simp [Value.oneCell']) ?_ HSZ.out.1 HSZ.out.2 hAz; intro g2 cap2 w4 hown4 hext4 hg4 hloc4)
            | go_in)
          have hoA := owns_ext HOA.out.own ((Ext.refl A).alloc (.cells #[.map (some (wq.heap.size + 1))] 130))
          refine ⟨⟨k + 1, _, _, bs ++ [wq.heap.size + 1], ⟨by omega, (HS2.out.keep ((Ext.refl A).alloc _)).row hoA (by decide) hg4, HOA.out.push (Ext.refl A) HSA.out hown4 hg4, (HWA.out.ext ((Ext.refl A).alloc _)).row hoA (by decide) hg4⟩, ?_⟩, ?_⟩
          · (repeat apply Exists.intro)
            rfl
          · simp [intOf]; omega
--]dev
      · have x2 : decide ((k : Int) < (r.houses.length : Int)) = false := by simpa using hkl
        have hke : k = r.houses.length := by omega
        subst hke
        have ha1 := HB.out.a1
        have ha2 := HB.out.a2
        have ho1 := HB.out.o1
        have ho2 := HB.out.o2
        have hsz : ob + 1 ≤ wq.heap.size := by omega
        have hSl : (ownSs r free b).length = r.houses.length := by simp [ownSs]
        have HOT := Lib.hid (others_any ov (ownSs r free b) (r.all + r.off) wq hO.sets_all (by omega) (by omega) (by omega) (by omega))
        obtain ⟨y0, y1, y2, y3, y4, y5, y6, y7⟩ := hS.r
        have HS := Lib.hid hS
        have HO := Lib.hid hO
        clear hS hO hW w0' w1' w2' w3' w4' w5' w6' w7' w8' hk hkl
        go_wp2_with (first
          | (go_at_call 82; refine HOT.out.mono ?_; rintro e w1 ⟨rv, bs2, rfl, hx1, hbl2, hown2, hset2⟩; have y5' := hx1.cell y5)
          | go_in)
        have hJ : ∃ (N0 : Nat) (vals : List Value) (lss : List (List Int)), (N0 ≤ 4 * perB ∧ N0 = (b - r.lo).toNat * perB) ∧ SrchJ r (.slice a r.houses.length c) w ob (w.heap.size + 2) free b ds (H2 (ownSs r free b) (r.all + r.off) (r.all - r.off) (r.all + r.off) (houseR r free b) 0) (A2 (ownSs r free b) (r.all + r.off) (r.all - r.off) (r.all + r.off) (allR r free b) 0) (N0 + 0 * (20001 * 202)) false (met2 (ownSs r free b) (r.all + r.off) (r.all - r.off) (r.all + r.off) 0) ov rv bs bs2 vals lss w1 :=
          ⟨_, vals, lss, ⟨Nat.mul_le_mul_right _ (by have := HB.out.l4; omega), rfl⟩, HS.out.keep hx1, HI.out.col.congr (fun i m _ => H2_zero.symm) (fun m => A2_zero.symm) (fun m => Iff.rfl), HI.out.len.mono (by omega), Iff.intro (fun h => by cases h) (fun h => (met2_zero h).elim), (SetsOwn.mk HO.out.own HO.out.len HO.out.sets).nc (NC.of_ext hx1), ⟨by rw [hSl] at hown2; exact owns_low hown2 (by omega), by rw [hbl2, hSl], hset2⟩⟩
        clear y0 y1 y2 y3 y4 y5 y6 y7 y5' hx1 hbl2 hown2 hset2 hsz
        obtain ⟨N0, vals', lss', ⟨hN0, hN0e⟩, hJ⟩ := hJ
        go_loopw [14, 74] (fun m i W => ∃ (j : Nat) (vals : List Value) (lss : List (List Int)) (t : Bool), j ≤ r.houses.length ∧ i = .int .i64 j ∧ m = .bool t ∧ SrchJ r (.slice a r.houses.length c) w ob (w.heap.size + 2) free b ds (H2 (ownSs r free b) (r.all + r.off) (r.all - r.off) (r.all + r.off) (houseR r free b) j) (A2 (ownSs r free b) (r.all + r.off) (r.all - r.off) (r.all + r.off) (allR r free b) j) (N0 + j * (20001 * 202)) t (met2 (ownSs r free b) (r.all + r.off) (r.all - r.off) (r.all + r.off) j) ov rv bs bs2 vals lss W) (fun _ i _ => r.houses.length - (intOf i).toNat)
        case atStart => exact ⟨0, _, _, false, Nat.zero_le _, rfl, rfl, hJ⟩
        case round =>
          clear hJ HOT HS
          obtain ⟨j, vals, lss, t, hj, rfl, rfl, hJ⟩ := hrel
          by_cases hjl : j < r.houses.length
          · have x3 : decide ((j : Int) < (r.houses.length : Int)) = true := by simpa using hjl
            obtain ⟨go, capo, so, rfl, hco1, hco2, hco3, hso⟩ := hJ.own.cell hjl
            have hsoS : SetAt wr so (setN (ownSs r free b) j) := by rw [ownSs_at hjl]; exact hso
            have hwr := hJ.si.ext.size
            have HJ := Lib.hid hJ
            have tok4 : True := trivial
            clear hJ hso
            go_wp2_with (first
              | (at_range; have _t := tok4; refine wpList_set_range rfl _ rfl rfl hsoS _ rfl ?_; intro w2 hr2 hg2 hz2; clear tok4; go_frame)
              | go_in)
            have hE2 : Ext wr w2 := (Ext.refl wr).grown hg2 (fun k hk => by cases hk)
            have hJ3 : ∃ vals lss L, True ∧ SrchJ r (.slice a r.houses.length c) w ob (w.heap.size + 2) free b ds (H3 (ownSs r free b) (r.all + r.off) (r.all - r.off) (r.all + r.off) (houseR r free b) j L) (A3 (ownSs r free b) (r.all + r.off) (r.all - r.off) (r.all + r.off) (allR r free b) j L) (N0 + j * (20001 * 202) + (20001 - w2.rangeLeft so wr.heap.size) * 202) t (met3 (ownSs r free b) (r.all + r.off) (r.all - r.off) (r.all + r.off) j L) (.slice (some ⟨go, 0, none⟩) r.houses.length capo) rv bs bs2 vals lss w2 ∧ RangeAt w2 so wr.heap.size (setN (ownSs r free b) j) L :=
              ⟨vals, lss, setN (ownSs r free b) j, trivial, (HJ.out.ext hE2).congr (fun i m _ => (H3_start i m).symm) (fun m => (A3_start m).symm) (by omega) (HJ.out.met.trans met3_start.symm), hr2⟩
            clear hsoS hz2 hg2 hE2 hr2 _t
            generalize wr.heap.size = q at hJ3 hwr ⊢
            obtain ⟨vals, lss, L, _, hJ3⟩ := hJ3
            go_loopw [14] (fun m W => ∃ (vals : List Value) (lss : List (List Int)) (t : Bool) (L : Int → Prop), m = .bool t ∧ SrchJ r (.slice a r.houses.length c) w ob (w.heap.size + 2) free b ds (H3 (ownSs r free b) (r.all + r.off) (r.all - r.off) (r.all + r.off) (houseR r free b) j L) (A3 (ownSs r free b) (r.all + r.off) (r.all - r.off) (r.all + r.off) (allR r free b) j L) (N0 + j * (20001 * 202) + (20001 - W.rangeLeft so q) * 202) t (met3 (ownSs r free b) (r.all + r.off) (r.all - r.off) (r.all + r.off) j L) (.slice (some ⟨go, 0, none⟩) r.houses.length capo) rv bs bs2 vals lss W ∧ RangeAt W so q (setN (ownSs r free b) j) L) (fun _ W => W.rangeLeft so q)
            case atStart => exact ⟨vals, lss, t, L, rfl, hJ3⟩
            case round =>
              clear hJ3 HJ hco3
              obtain ⟨vals, lss, t, L, rfl, hJ, hR⟩ := hrel
              have hRle := rangeLeft_le hR
              go_wp2_with (first | (at_next; refine wpList_set_next rfl _ rfl rfl hR ?_ ?_) | go_in)
              · intro hL
                have hTn : ∀ n, setN (ownSs r free b) j n → ¬ L n := fun n hn => by
                  have hb := (hR.set.choose_spec.2).rng n hn
                  exact hL n (by omega) (by omega)
                have hJe := hJ.congr (H' := H2 (ownSs r free b) (r.all + r.off) (r.all - r.off) (r.all + r.off) (houseR r free b) (j + 1)) (A' := A2 (ownSs r free b) (r.all + r.off) (r.all - r.off) (r.all + r.off) (allR r free b) (j + 1)) (N' := N0 + (j + 1) * (20001 * 202)) (t' := t) (M' := met2 (ownSs r free b) (r.all + r.off) (r.all - r.off) (r.all + r.off) (j + 1)) (fun i m _ => H3_end hTn i m) (fun m => A3_end hTn m) (by omega) (hJ.met.trans (met3_end hTn))
                have HJE := Lib.hid hJe
                clear hJ hR hJe hL
                go_wp2
                refine ⟨?rel, ?measure⟩
                case rel => exact ⟨j + 1, _, _, _, by omega, by go_num, rfl, HJE.out⟩
                case measure => simp [intOf]; omega
              · intro x w2 hLx hSx hx0 hx1 hR2 hleft hg2 hsz2 hen
                have hJ2 := hJ.step hR hwr hg2
                obtain ⟨y0, y1, y2, y3, y4, y5, y6, y7⟩ := hJ2.si.r
                have HJ2 := Lib.hid hJ2
                have ha1 := HB.out.a1
                have ha2 := HB.out.a2
                have ho1 := HB.out.o1
                have ho2 := HB.out.o2
                generalize hp0 : wr.rangeLeft so q = p at hJ2 hleft hRle
                generalize hp1 : w2.rangeLeft so q = p' at hleft
                have hJ3 : ∃ (vals : List Value) (lss : List (List Int)), SrchJ r (.slice a r.houses.length c) w ob (w.heap.size + 2) free b ds (H3 (ownSs r free b) (r.all + r.off) (r.all - r.off) (r.all + r.off) (houseR r free b) j L) (A4 (ownSs r free b) (r.all + r.off) (r.all - r.off) (r.all + r.off) (allR r free b) j L x (r.all - r.off)) (N0 + j * (20001 * 202) + (20001 - p) * 202 + (r.all - r.off - (r.all - r.off)).toNat) t (met3 (ownSs r free b) (r.all + r.off) (r.all - r.off) (r.all + r.off) j L) (.slice (some ⟨go, 0, none⟩) r.houses.length capo) rv bs bs2 vals lss w2 := ⟨_, _, hJ2.congr (fun _ _ _ => Iff.rfl) (fun m => (A4_start m).symm) (by omega) hJ2.met⟩
                clear hJ hR hg2 hsz2 hJ2 HJ2
                go_wp2_with go_in
                obtain ⟨vals, lss, hJ3⟩ := hJ3
                go_loopw [18, 19] (fun f i W => ∃ (cur : Int) (vals : List Value) (lss : List (List Int)) (ft : Bool), i = .int .i64 cur ∧ f = .bool ft ∧ r.all - r.off ≤ cur ∧ cur ≤ r.all + r.off + 1 ∧ SrchJ r (.slice a r.houses.length c) w ob (w.heap.size + 2) free b ds (H3 (ownSs r free b) (r.all + r.off) (r.all - r.off) (r.all + r.off) (houseR r free b) j L) (A4 (ownSs r free b) (r.all + r.off) (r.all - r.off) (r.all + r.off) (allR r free b) j L x cur) (N0 + j * (20001 * 202) + (20001 - p) * 202 + (cur - (r.all - r.off)).toNat) t (met3 (ownSs r free b) (r.all + r.off) (r.all - r.off) (r.all + r.off) j L) (.slice (some ⟨go, 0, none⟩) r.houses.length capo) rv bs bs2 vals lss W ∧ (ft = true ↔ fits4 (ownSs r free b) (r.all + r.off) (r.all - r.off) (r.all + r.off) j x cur) ∧ RangeAt W so q (setN (ownSs r free b) j) (fun z => L z ∧ z ≠ x) ∧ W.rangeLeft so q = p') (fun _ i _ => (r.all + r.off + 1 - intOf i).toNat)
                case atStart => exact ⟨_, vals, lss, false, rfl, rfl, Int.le_refl _, by omega, hJ3, Iff.intro (fun h => by cases h) (fun h => (fits4_start h).elim), hR2, hp1⟩
                case round =>
                  clear hJ3 hR2 hp1 hen y0 y1 y2 y3 y4 y5 y6 y7
                  obtain ⟨cur, vals, lss, ft, rfl, rfl, hc1, hc2, hJ, hft, hR, hp1⟩ := hrel
                  obtain ⟨y0, y1, y2, y3, y4, y5, y6, y7⟩ := hJ.si.r
                  by_cases hcl : cur ≤ r.all + r.off
                  · have x4 : decide (cur ≤ r.all + r.off) = true := by simpa using hcl
                    obtain ⟨gr, capr, sr, rfl, hcr1, hcr2, hcr3, hsr⟩ := hJ.rest.cell hjl
                    obtain ⟨v, xs, hv', hl', hcell, hown, hxl⟩ := hJ.row (i := r.houses.length) (by omega)
                    have hslot : slotA r.houses.length ob (w.heap.size + 2) r.houses.length = ⟨ob, 1, none⟩ := by simp [slotA]
                    rw [hslot] at hcell
                    have HSZ := Lib.hid (sz_of hxl (by unfold perB at *; omega))
                    have HJ := Lib.hid hJ
                    have HOWN := Lib.hid hown
                    have HR := Lib.hid hR
                    have hob2 : ob + 1 ≤ wr.heap.size := lt_of_cell hcell
                    have hSx : setN (ownSs r free b) j x := hSx
                    clear hJ hown hR
                    by_cases hyes : otherS (ownSs r free b) (r.all + r.off) j (cur - x)
                    · have hit : HitS (ownSs r free b) (r.all + r.off) (r.all - r.off) (r.all + r.off) j x cur := ⟨hSx, hyes, hc1, hcl⟩
                      have HCOL := Lib.hid ((HJ.out.col.all hl').congr (fun _ _ _ => Iff.rfl) (fun m => A4_yes hit m) (fun _ => Iff.rfl))
                      go_wp2_with (first
                        | (at_lookup; refine wpList_set_lookup rfl _ _ rfl rfl hsr rfl (by omega) (by omega) ?_; intro cB hcB; obtain rfl : cB = true := hcB.2 hyes)
                        | (at_builtin; refine wpList_push_at E_numbers rfl _ _ rfl (ob + 1) rfl HOWN.out rfl rfl rfl (by simp [Value.oneCell']) ?_ HSZ.out.1 HSZ.out.2 hob2; intro g cap w4 hown4 hext4 hg4 hloc4
                           obtain ⟨⟨s0, s1, s2⟩, hnc, hJn⟩ := HJ.out.push (Ext.refl _) hv' hl' hown4 hg4 hloc4 HCOL.out (Nat.le_refl _) HJ.out.met
                           rw [hslot] at s0 s1 hnc hJn
                           have HN := Lib.hid (And.intro hnc hJn)
                           clear hnc hJn hg4 hext4 hown4)
                        | go_in)
                      refine ⟨?rel, ?measure⟩
                      case rel => exact ⟨cur + 1, _, _, true, rfl, rfl, by omega, by omega, HN.out.2.congr (fun _ _ _ => Iff.rfl) (fun _ => Iff.rfl) (by omega) HN.out.2.met, Iff.intro (fun _ => fits4_yes hit) (fun _ => rfl), HR.out.nc HN.out.1, (HR.out.left_nc HN.out.1).trans hp1⟩
                      case measure => simp [intOf]; omega
                    · have hno : ¬ HitS (ownSs r free b) (r.all + r.off) (r.all - r.off) (r.all + r.off) j x cur := fun h => hyes h.2.1
                      go_wp2_with (first
                        | (at_lookup; refine wpList_set_lookup rfl _ _ rfl rfl hsr rfl (by omega) (by omega) ?_; intro cB hcB; obtain rfl : cB = false := (Bool.eq_false_iff.2 (fun h => hyes (hcB.1 h))))
                        | go_in)
                      have HC := Lib.hid (HJ.out.congr (A' := A4 (ownSs r free b) (r.all + r.off) (r.all - r.off) (r.all + r.off) (allR r free b) j L x (cur + 1)) (N' := N0 + j * (20001 * 202) + (20001 - p) * 202 + (cur + 1 - (r.all - r.off)).toNat) (fun _ _ _ => Iff.rfl) (fun m => A4_no hno m) (by omega) HJ.out.met)
                      refine ⟨?rel, ?measure⟩
                      case rel => exact ⟨cur + 1, _, _, _, rfl, rfl, by omega, by omega, HC.out, hft.trans (fits4_no hno), HR.out, hp1⟩
                      case measure => simp [intOf]; omega
                  · have x4 : decide (cur ≤ r.all + r.off) = false := by simpa using hcl
                    have hce : cur = r.all + r.off + 1 := by omega
                    have hHe : ft = true ↔ ∃ a, HitS (ownSs r free b) (r.all + r.off) (r.all - r.off) (r.all + r.off) j x a := hft.trans (fits4_end (by omega))
                    have HJ := Lib.hid hJ
                    have HR := Lib.hid hR
                    clear hJ hR
                    cases ft with
                    | false =>
                      have hno : ¬ ∃ a, HitS (ownSs r free b) (r.all + r.off) (r.all - r.off) (r.all + r.off) j x a := fun h => by have := hHe.2 h; cases this
                      go_wp2_with go_in
                      have HC := Lib.hid (HJ.out.congr (H' := H3 (ownSs r free b) (r.all + r.off) (r.all - r.off) (r.all + r.off) (houseR r free b) j (fun z => L z ∧ z ≠ x)) (A' := A3 (ownSs r free b) (r.all + r.off) (r.all - r.off) (r.all + r.off) (allR r free b) j (fun z => L z ∧ z ≠ x)) (N' := N0 + j * (20001 * 202) + (20001 - wr.rangeLeft so q) * 202) (M' := met3 (ownSs r free b) (r.all + r.off) (r.all - r.off) (r.all + r.off) j (fun z => L z ∧ z ≠ x)) (fun i m _ => H3_no hno i m) (fun m => A4_end (by omega) m) (by omega) (HJ.out.met.trans (met3_no hno)))
                      refine ⟨?rel, ?measure⟩
                      case rel => exact ⟨_, _, _, _, rfl, HC.out, HR.out⟩
                      case measure => omega
                    | true =>
                      have hex := hHe.1 rfl
                      obtain ⟨v, xs, hv', hl', hcell, hown, hxl⟩ := HJ.out.row (i := j) (by omega)
                      have hslot : slotA r.houses.length ob (w.heap.size + 2) j = ⟨w.heap.size + 2, j, none⟩ := by simp [slotA, hjl]
                      have hfz := (HJ.out.si.out.c j v hv').2
                      have hc0 := HJ.out.si.out.c0
                      rw [hslot] at hcell hfz
                      have HSZ := Lib.hid (sz_of hxl (by unfold perB at *; omega))
                      have HOWN := Lib.hid hown
                      have hob2 : ob + 1 ≤ wr.heap.size := lt_of_cell hc0
                      have HCOL := Lib.hid ((HJ.out.col.house hjl hl').congr (fun i m _ => H3_yes hex i m) (fun m => A4_end (by omega) m) (fun _ => Iff.rfl))
                      have HMET := Lib.hid (show true = true ↔ met3 (ownSs r free b) (r.all + r.off) (r.all - r.off) (r.all + r.off) j (fun z => L z ∧ z ≠ x) from Iff.intro (fun _ => met3_yes hex) (fun _ => rfl))
                      have hlo := HJ.out.si.lo
                      have hcella := ((Ext.refl wr).alloc (.cells #[.int .i64 x] 3)).cell hcell
                      have hS2 : ∀ (A : World) (u : Value), A.cell? ⟨ob, 0, none⟩ = some (.slice (some ⟨w.heap.size + 2, 0, none⟩) r.houses.length r.houses.length) → (A.setCell ⟨w.heap.size + 2, j, none⟩ u).cell? ⟨ob, 0, none⟩ = some (.slice (some ⟨w.heap.size + 2, 0, none⟩) r.houses.length r.houses.length) := fun A u h => by
                        rw [World.cell?_setCell_other (h := fun e => by have := congrArg Addr.block e; simp only at this; omega)]; exact h
                      clear hown
                      go_upto_region 33 with fail
                      clear y0 y1 y2 y3 y4 y5 y6 y7
                      refine wp_region_noPanic ?_
                      refine wp_region_any (by kernel_rfl) (wpAny_of_till (z := 12) (S := (fun w' => w'.cell? ⟨ob, 0, none⟩ = some (.slice (some ⟨w.heap.size + 2, 0, none⟩) r.houses.length r.houses.length) ∧ w'.cell? ⟨w.heap.size + 2, j, none⟩ = some v)) _ _ _ _ ?_)
                      change wpTill _ _ _ _ _ _ _ _ _ wr.drew
                      have hS0 : wr.drew.cell? ⟨ob, 0, none⟩ = some (.slice (some ⟨w.heap.size + 2, 0, none⟩) r.houses.length r.houses.length) ∧ wr.drew.cell? ⟨w.heap.size + 2, j, none⟩ = some v := ⟨by simpa using hc0, by simpa using hcell⟩
                      refine till_at (i := 0) (d := some 115) (v := .pointer (some ⟨ob, 0, none⟩)) (by kernel_rfl) (by kernel_rfl) (by kernel_rfl) (by kernel_rfl) (by kernel_rfl) (fun _ _ _ h => h) (fun o ho => ?_) hS0 ?_
                      · simp only [List.getElem?_toArray, List.getElem?_cons_zero, Option.some.injEq] at ho
                        subst ho
                        refine Or.inl ⟨by rfl, fun w' hSw => ?_⟩
                        obtain ⟨hSw1, hSw2⟩ := hSw
                        go_simp
                      simp only [Act.put, List.setIfInBounds_toArray, List.set_cons_zero, List.set_cons_succ]
                      refine till_at (i := 1) (d := some 116) (v := .slice (some ⟨w.heap.size + 2, 0, none⟩) r.houses.length r.houses.length) (by kernel_rfl) (by kernel_rfl) (by kernel_rfl) (by kernel_rfl) (by kernel_rfl) (fun _ _ _ h => h) (fun o ho => ?_) hS0 ?_
                      · simp only [List.getElem?_toArray, List.getElem?_cons_zero, List.getElem?_cons_succ, Option.some.injEq] at ho
                        subst ho
                        refine Or.inl ⟨by rfl, fun w' hSw => ?_⟩
                        obtain ⟨hSw1, hSw2⟩ := hSw
                        go_simp
                      simp only [Act.put, List.setIfInBounds_toArray, List.set_cons_zero, List.set_cons_succ]
                      refine till_at (i := 2) (d := some 117) (v := .int .i64 j) (by kernel_rfl) (by kernel_rfl) (by kernel_rfl) (by kernel_rfl) (by kernel_rfl) (fun _ _ _ h => h) (fun o ho => ?_) hS0 ?_
                      · simp only [List.getElem?_toArray, List.getElem?_cons_zero, List.getElem?_cons_succ, Option.some.injEq] at ho
                        subst ho
                        refine Or.inl ⟨by rfl, fun w' hSw => ?_⟩
                        obtain ⟨hSw1, hSw2⟩ := hSw
                        go_simp
                      simp only [Act.put, List.setIfInBounds_toArray, List.set_cons_zero, List.set_cons_succ]
                      refine till_at (i := 3) (d := some 118) (v := .pointer (some ⟨ob, 0, none⟩)) (by kernel_rfl) (by kernel_rfl) (by kernel_rfl) (by kernel_rfl) (by kernel_rfl) (fun _ _ _ h => h) (fun o ho => ?_) hS0 ?_
                      · simp only [List.getElem?_toArray, List.getElem?_cons_zero, List.getElem?_cons_succ, Option.some.injEq] at ho
                        subst ho
                        refine Or.inl ⟨by rfl, fun w' hSw => ?_⟩
                        obtain ⟨hSw1, hSw2⟩ := hSw
                        go_simp
                      simp only [Act.put, List.setIfInBounds_toArray, List.set_cons_zero, List.set_cons_succ]
                      refine till_at (i := 4) (d := some 119) (v := .slice (some ⟨w.heap.size + 2, 0, none⟩) r.houses.length r.houses.length) (by kernel_rfl) (by kernel_rfl) (by kernel_rfl) (by kernel_rfl) (by kernel_rfl) (fun _ _ _ h => h) (fun o ho => ?_) hS0 ?_
                      · simp only [List.getElem?_toArray, List.getElem?_cons_zero, List.getElem?_cons_succ, Option.some.injEq] at ho
                        subst ho
                        refine Or.inl ⟨by rfl, fun w' hSw => ?_⟩
                        obtain ⟨hSw1, hSw2⟩ := hSw
                        go_simp
                      simp only [Act.put, List.setIfInBounds_toArray, List.set_cons_zero, List.set_cons_succ]
                      refine till_at (i := 5) (d := some 120) (v := .int .i64 j) (by kernel_rfl) (by kernel_rfl) (by kernel_rfl) (by kernel_rfl) (by kernel_rfl) (fun _ _ _ h => h) (fun o ho => ?_) hS0 ?_
                      · simp only [List.getElem?_toArray, List.getElem?_cons_zero, List.getElem?_cons_succ, Option.some.injEq] at ho
                        subst ho
                        refine Or.inl ⟨by rfl, fun w' hSw => ?_⟩
                        obtain ⟨hSw1, hSw2⟩ := hSw
                        go_simp
                      simp only [Act.put, List.setIfInBounds_toArray, List.set_cons_zero, List.set_cons_succ]
                      refine till_at (i := 6) (d := some 121) (v := .pointer (some ⟨w.heap.size + 2, j, none⟩)) (by kernel_rfl) (by kernel_rfl) (by kernel_rfl) (by kernel_rfl) (by kernel_rfl) (fun _ _ _ h => h) (fun o ho => ?_) hS0 ?_
                      · simp only [List.getElem?_toArray, List.getElem?_cons_zero, List.getElem?_cons_succ, Option.some.injEq] at ho
                        subst ho
                        refine Or.inl ⟨by rfl, fun w' hSw => ?_⟩
                        obtain ⟨hSw1, hSw2⟩ := hSw
                        go_simp
                      simp only [Act.put, List.setIfInBounds_toArray, List.set_cons_zero, List.set_cons_succ]
                      refine till_at (i := 7) (d := some 122) (v := v) (by kernel_rfl) (by kernel_rfl) (by kernel_rfl) (by kernel_rfl) (by kernel_rfl) (fun _ _ _ h => h) (fun o ho => ?_) hS0 ?_
                      · simp only [List.getElem?_toArray, List.getElem?_cons_zero, List.getElem?_cons_succ, Option.some.injEq] at ho
                        subst ho
                        refine Or.inl ⟨by rfl, fun w' hSw => ?_⟩
                        obtain ⟨hSw1, hSw2⟩ := hSw
                        go_simp
                      simp only [Act.put, List.setIfInBounds_toArray, List.set_cons_zero, List.set_cons_succ]
                      refine till_at (i := 8) (d := some 123) (v := .int .i64 x) (by kernel_rfl) (by kernel_rfl) (by kernel_rfl) (by kernel_rfl) (by kernel_rfl) (fun _ _ _ h => h) (fun o ho => ?_) hS0 ?_
                      · simp only [List.getElem?_toArray, List.getElem?_cons_zero, List.getElem?_cons_succ, Option.some.injEq] at ho
                        subst ho
                        refine Or.inl ⟨by rfl, fun w' hSw => ?_⟩
                        obtain ⟨hSw1, hSw2⟩ := hSw
                        go_simp
                      simp only [Act.put, List.setIfInBounds_toArray, List.set_cons_zero, List.set_cons_succ]
                      refine till_step (i := 9) (by kernel_rfl) (by kernel_rfl) (fun o ho K' hK => ?_)
                      simp only [List.getElem?_toArray, List.getElem?_cons_zero, List.getElem?_cons_succ, Option.some.injEq] at ho
                      subst ho
                      go_simp
                      refine hK.out _ _ (fun _ => ⟨by go_keep, by go_keep⟩) (fun hS9 => ?_)
                      clear hK K' hS9
                      try simp only [Act.put, List.setIfInBounds_toArray, List.set_cons_zero, List.set_cons_succ]
                      refine till_step (i := 10) (by kernel_rfl) (by kernel_rfl) (fun o ho K' hK => ?_)
                      simp only [List.getElem?_toArray, List.getElem?_cons_zero, List.getElem?_cons_succ, Option.some.injEq] at ho
                      subst ho
                      refine step_push_at E_numbers (by rfl) _ _ (by rfl) (ob + 1) (by rfl) (owns_ext HOWN.out ((Ext.refl wr).drew)) (by rfl) (by rfl) (by rfl) (by simp [Value.oneCell']) ?_ HSZ.out.1 HSZ.out.2 hob2
                      intro g cap w4 hown4 hg4 hloc4
                      obtain ⟨⟨s0, s1, s2⟩, hnc, hJn⟩ := HJ.out.push ((Ext.refl wr).drew) hv' hl' hown4 hg4 hloc4 HCOL.out (Nat.le_refl _) HMET.out
                      rw [hslot] at s0 s1 hnc hJn
                      have HN := Lib.hid (And.intro hnc hJn)
                      clear hnc hJn hg4 hown4
                      refine hK.out _ _ (fun _ => ⟨s2, s0⟩) (fun _ => ?_)
                      clear hK K'
                      try simp only [Act.put, List.setIfInBounds_toArray, List.set_cons_zero, List.set_cons_succ]
                      refine till_at (i := 11) (d := some 126) (v := .pointer (some ⟨w.heap.size + 2, j, none⟩)) (by kernel_rfl) (by kernel_rfl) (by kernel_rfl) (by kernel_rfl) (by kernel_rfl) (fun _ _ _ h => h) (fun o ho => ?_) ⟨s2, s0⟩ ?_
                      · simp only [List.getElem?_toArray, List.getElem?_cons_zero, List.getElem?_cons_succ, Option.some.injEq] at ho
                        subst ho
                        refine Or.inl ⟨by rfl, fun w' hSw => ?_⟩
                        obtain ⟨hSw1, hSw2⟩ := hSw
                        go_simp
                      simp only [Act.put, List.setIfInBounds_toArray, List.set_cons_zero, List.set_cons_succ]
                      refine till_step (i := 12) (by kernel_rfl) (by kernel_rfl) (fun o ho K' hK => ?_)
                      simp only [List.getElem?_toArray, List.getElem?_cons_zero, List.getElem?_cons_succ, Option.some.injEq] at ho
                      subst ho
                      go_simp
                      refine hK.out _ _ (fun h => absurd rfl h) (fun _ => ?_)
                      clear hK K'
                      refine till_done (by kernel_rfl) ?_ _
                      refine NoPanic.normal ?_
                      try simp only [Act.put, List.setIfInBounds_toArray, List.set_cons_zero, List.set_cons_succ]
                      all_goals go_wp2_with go_in
                      all_goals (
                        have hRn := HR.out.nc HN.out.1
                        have hLn := HR.out.left_nc HN.out.1
                        refine ⟨?rel, ?measure⟩
                        case rel => exact ⟨_, _, true, _, rfl, HN.out.2.congr (fun _ _ _ => Iff.rfl) (fun _ => Iff.rfl) (by rw [hLn, hp1]; omega) HN.out.2.met, hRn⟩
                        case measure => rw [hLn, hp1, hp0]; exact hleft)
          · have x3 : decide ((j : Int) < (r.houses.length : Int)) = false := by simpa using hjl
            have hje : j = r.houses.length := by omega
            subst hje
            have HJ := Lib.hid hJ
            cases t with
            | false =>
              have hno : ¬ met2 (ownSs r free b) (r.all + r.off) (r.all - r.off) (r.all + r.off) r.houses.length := fun h => by have := hJ.met.2 h; cases this
              have HD := Lib.hid (hJ.noneMet hb1 hn2 hN0e hno)
              clear hJ
              go_wp2_with go_in
              refine ⟨⟨b + 1, ds, _, _, ⟨by omega, by omega, HD.out⟩, ?_⟩, ?_⟩
              · (repeat apply Exists.intro)
                rfl
              · simp [intOf]; omega
            | true =>
              have hyes := hJ.met.1 rfl
              obtain ⟨v, xs, hv', hl', hcell, hown, hxl⟩ := hJ.row (i := r.houses.length + 1) (by omega)
              have hslot : slotA r.houses.length ob (w.heap.size + 2) (r.houses.length + 1) = ⟨ob, 2, none⟩ := by unfold slotA; rw [if_neg (by omega), if_neg (by omega)]
              rw [hslot] at hcell
              have hob2 : ob + 1 ≤ wr.heap.size := lt_of_cell hcell
              have HSZ := Lib.hid (sz_of hxl (by unfold perB at *; omega))
              have HOWN := Lib.hid hown
              clear hJ hown hslot
              go_wp2_with (first
                | (at_builtin; refine wpList_push_at E_numbers rfl _ _ rfl (ob + 1) rfl HOWN.out rfl rfl rfl (by simp [Value.oneCell']) ?_ HSZ.out.1 HSZ.out.2 hob2; intro g cap w4 hown4 hext4 hg4 hloc4
                   obtain ⟨⟨s0, s1⟩, hD⟩ := HJ.out.someMet hb1 hn2 hN0e hyes (Ext.refl _) hv' hl' hown4 hg4 hloc4
                   have HD := Lib.hid hD
                   clear hD hg4 hext4 hown4)
                | go_in)
              refine ⟨⟨b + 1, ds, _, _, ⟨by omega, by omega, HD.out⟩, ?_⟩, ?_⟩
              · (repeat apply Exists.intro)
                rfl
              · simp [intOf]; omega
  · have x1 : decide (b ≤ r.hi) = false := by simpa using hbl
    have hbe : b = r.hi + 1 := by omega
    subst hbe
    obtain ⟨q0, q1, q2⟩ := hI.si.out.cells
    obtain ⟨va1, vn1, vc1, hV1⟩ := hI.si.out.slices (i := r.houses.length) (by omega)
    obtain ⟨va2, vn2, vc2, hV2⟩ := hI.si.out.slices (i := r.houses.length + 1) (by omega)
    have hagg : Value.agg #[.slice (some ⟨w.heap.size + 2, 0, none⟩) r.houses.length r.houses.length, .slice va1 vn1 vc1, .slice va2 vn2 vc2] = .agg #[.slice (some ⟨w.heap.size + 2, 0, none⟩) r.houses.length r.houses.length, vals.getD r.houses.length undef, vals.getD (r.houses.length + 1) undef] := by rw [hV1, hV2]
    rw [hV1] at q1
    rw [hV2] at q2
    clear hV1 hV2
    obtain ⟨f0, f1, f2⟩ := hI.si.f
    obtain ⟨g0, g1, g2⟩ := hI.si.fz
    have hc1 : (⟨w.heap.size + 1, 0, none⟩ : Addr) ≠ ⟨w.heap.size + 1, 1, none⟩ := by simp
    have hc2 : (⟨w.heap.size + 1, 0, none⟩ : Addr) ≠ ⟨w.heap.size + 1, 2, none⟩ := by simp
    have hc3 : (⟨w.heap.size + 1, 1, none⟩ : Addr) ≠ ⟨w.heap.size + 1, 2, none⟩ := by simp
    have e1 : (wr.setCell ⟨w.heap.size + 1, 0, none⟩ (.slice (some ⟨w.heap.size + 2, 0, none⟩) r.houses.length r.houses.length)).cell? ⟨w.heap.size + 1, 1, none⟩ = some (.slice none 0 0) := by rw [World.cell?_setCell_other (h := hc1)]; exact f1
    have e1' : (wr.setCell ⟨w.heap.size + 1, 0, none⟩ (.slice (some ⟨w.heap.size + 2, 0, none⟩) r.houses.length r.houses.length)).frozen? ⟨w.heap.size + 1, 1, none⟩ = false := by rw [World.frozen?_setCell]; exact g1
    have e2 : ((wr.setCell ⟨w.heap.size + 1, 0, none⟩ (.slice (some ⟨w.heap.size + 2, 0, none⟩) r.houses.length r.houses.length)).setCell ⟨w.heap.size + 1, 1, none⟩ (.slice va1 vn1 vc1)).cell? ⟨w.heap.size + 1, 2, none⟩ = some (.slice none 0 0) := by rw [World.cell?_setCell_other (h := hc3), World.cell?_setCell_other (h := hc2)]; exact f2
    have e2' : ((wr.setCell ⟨w.heap.size + 1, 0, none⟩ (.slice (some ⟨w.heap.size + 2, 0, none⟩) r.houses.length r.houses.length)).setCell ⟨w.heap.size + 1, 1, none⟩ (.slice va1 vn1 vc1)).frozen? ⟨w.heap.size + 1, 2, none⟩ = false := by rw [World.frozen?_setCell, World.frozen?_setCell]; exact g2
    have HI := Lib.hid hI
    have HF := Lib.hid hagg
    have HM := Lib.hid (((hI.si.marks.setCell (v := .slice (some ⟨w.heap.size + 2, 0, none⟩) r.houses.length r.houses.length) f0).setCell (v := (.slice va1 vn1 vc1)) e1).setCell (v := (.slice va2 vn2 vc2)) e2)
    clear hI hagg
    go_wp2_with go_in
    refine marks_leave HM.out ?_
    intro W' hk k1 k2 k3 k4
    have hlo := HI.out.si.lo
    have hsz := HI.out.si.ext.size
    have hE3 : Ext w (((wr.setCell ⟨w.heap.size + 1, 0, none⟩ (.slice (some ⟨w.heap.size + 2, 0, none⟩) r.houses.length r.houses.length)).setCell ⟨w.heap.size + 1, 1, none⟩ (.slice va1 vn1 vc1)).setCell ⟨w.heap.size + 1, 2, none⟩ (.slice va2 vn2 vc2)) := ((HI.out.si.ext.setCell (by simp) _).setCell (by simp) _).setCell (by simp) _
    have hL := search_end HI.out (by unfold maxLen; omega) HF.out hk
    refine ⟨.agg #[.slice (some ⟨w.heap.size + 2, 0, none⟩) r.houses.length r.houses.length, .slice va1 vn1 vc1, .slice va2 vn2 vc2], ?_, _, lss, rfl, ext_marks hE3 hk k1 k2 k3 k4, HI.out.si.out.len, hL.2, HI.out.col⟩
    exact results_cell_row (by rfl) _ _ (w.heap.size + 1) 82 #[.slice (some ⟨w.heap.size + 2, 0, none⟩) r.houses.length r.houses.length, .slice va1 vn1 vc1, .slice va2 vn2 vc2] (0, 0) _ (by rfl) hL.1 Tryz.underlying82 (by rfl) (by kernel_rfl)
end Go.Proofs.YtbeophjdiddomaaGreatDoor
