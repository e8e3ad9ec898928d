/- CardEnds: the loop that lays a truth out of the numbers. -/
import Derived.Test.YtbeophjdiddomaaGreatDoorEndse
import Derived.Test.YtbeophjdiddomaaGreatDoorTwo
namespace Go.Proofs.YtbeophjdiddomaaGreatDoor
open Go.RowKit

theorem cell_at (W : World) (u : Value) (t : TypeId) (m : Nat) (hm : m = W.heap.size) : (W.alloc (.cells #[u] t)).cell? ⟨m, 0, none⟩ = some u := by
  subst hm
  have h := World.alloc_heap_new W (.cells #[u] t)
  unfold World.cell?
  simp only [h]
  rfl
abbrev boxX (xw : Int) (fv lv : Value) : Obj := .cells #[.int .i64 xw, fv, lv] 42 (0, 0)
theorem boxX_cells {W : World} {b : Nat} {xw : Int} {fv lv : Value} (h : W.heap[b]? = some (boxX xw fv lv)) : (W.cell? ⟨b, 0, none⟩ = some (.int .i64 xw) ∧ W.cell? ⟨b, 1, none⟩ = some fv ∧ W.cell? ⟨b, 2, none⟩ = some lv) ∧ W.frozen? ⟨b, 0, none⟩ = false ∧ W.frozen? ⟨b, 1, none⟩ = false ∧ W.frozen? ⟨b, 2, none⟩ = false := by
  simp [World.cell?, World.frozen?, h]
theorem sumE_bd {r : Round} (hB : RoundB r) {a0 : List Int} (h : InBox (spansE r) a0) : ∀ {k : Nat}, k ≤ r.houses.length → 0 ≤ sumE r a0 k ∧ sumE r a0 k ≤ 2220 * k
  | 0, _ => by simp [sumE]
  | k + 1, hk => by
    have ih := sumE_bd hB h (k := k) (by omega)
    have h1 := h.2 (2 * k) (by rw [spansE_length]; omega)
    have h2 := h.2 (2 * k + 1) (by rw [spansE_length]; omega)
    rw [List.getD_eq_getElem?_getD, List.getElem?_eq_getElem (by rw [spansE_length]; omega), Option.getD_some] at h1 h2
    have m1 := mem_spansE hB (List.getElem_mem (l := spansE r) (n := 2 * k) (by rw [spansE_length]; omega))
    have m2 := mem_spansE hB (List.getElem_mem (l := spansE r) (n := 2 * k + 1) (by rw [spansE_length]; omega))
    have hp1 := hB.p1
    have hp2 := hB.p2
    have v1 : 0 ≤ r.per * a0.getD (2 * k) 0 := Int.mul_nonneg (by omega) (by omega)
    have v2 : r.per * a0.getD (2 * k) 0 ≤ 36 * 60 := Int.le_trans (Int.mul_le_mul_of_nonneg_right hp2 (by omega)) (Int.mul_le_mul_of_nonneg_left (by omega) (by omega))
    rw [sumE]
    unfold valE nOf
    omega
def fullsE (a : List Int) (k : Nat) : List Int := (List.range k).map fun i => a.getD (2 * i) 0
def loosesE (a : List Int) (k : Nat) : List Int := (List.range k).map fun i => a.getD (2 * i + 1) 0
theorem fullsE_succ (a : List Int) (k : Nat) : fullsE a (k + 1) = fullsE a k ++ [a.getD (2 * k) 0] := by unfold fullsE; rw [List.range_succ, List.map_append]; rfl
theorem loosesE_succ (a : List Int) (k : Nat) : loosesE a (k + 1) = loosesE a k ++ [a.getD (2 * k + 1) 0] := by unfold loosesE; rw [List.range_succ, List.map_append]; rfl
/-- Two rows that lie apart. -/
def ApartV (u v : Value) : Prop := u.ownBlock = v.ownBlock → u.ownBlock = none
theorem ApartV.keep {u v : Value} (h : ApartV u v) : v.ownBlock = none ∨ v.ownBlock ≠ u.ownBlock := by
  by_cases e : v.ownBlock = u.ownBlock
  · left; rw [e]; exact h e.symm
  · exact .inr e

set_option maxRecDepth 1000000 in
set_option maxHeartbeats 64000000 in
theorem ends_l3 {Q0 : Exit → Act → World → Prop} (r : Round) (w W0 : World) (a : Option Addr) (c gs cs ga ca go bS : Nat) (h : EndsCtx r w W0 a c gs cs ga ca go bS) (a0 : List Int) (bx : Nat) (c0 c2 c3 c4 c5 c6 c8 c9 c10 c11 c12 c13 c14 c15 c16 c17 c18 c19 c20 c21 c25 c26 c27 c28 c29 c30 c31 c32 c33 c34 c35 c36 c37 c38 c39 c40 c41 c42 c43 c44 c45 c46 c47 c48 c49 c50 c51 c52 c53 c54 c55 c56 c57 c58 c59 c60 c61 c62 c63 c64 c65 c66 c67 c68 c69 c70 c71 c72 c73 c74 c75 c76 c77 c78 c79 c80 c81 c82 c83 c84 c85 c86 c87 c88 c89 c90 c91 c92 c93 c94 c95 c96 c97 c98 c99 c100 c101 c102 c103 c104 c105 c106 c107 c108 c109 c110 c111 c112 c113 c114 c115 c116 c117 c118 c119 c120 c121 c122 c123 c124 c125 c126 c127 c128 c129 c130 c131 c132 c133 c134 c135 c136 c137 c138 c139 c140 c141 c142 c143 c144 c145 c146 c147 c148 c149 c150 c151 c152 c153 c154 c155 c156 c157 c158 c159 c160 c161 c162 c163 c164 c165 c166 c167 c168 c169 c170 c171 c172 c173 c174 c175 c176 c177 c178 c179 c180 c181 c182 c183 c184 c185 c186 c187 c188 c189 c190 c191 c192 c193 c194 c195 c196 c197 c198 c199 c200 c201 c202 c203 c204 c205 c206 c207 c208 c209 c210 c211 c212 c213 c214 c215 c216 c217 c218 c219 c220 c221 c222 c223 c224 c225 c226 c227 c228 c229 c230 c231 c232 c233 c234 c235 c236 c237 c238 c239 c240 c241 c242 c243 c244 c245 c246 c247 c248 c249 c250 c251 c252 c253 c254 c255 c256 c257 c258 c259 c260 c261 c262 c263 c264 c265 c266 c267 c268 c269 c270 c271 c272 c273 c274 c275 c276 c277 c278 c279 c280 c281 c282 c283 c284 c285 c286 c287 c288 c289 c290 c291 c292 c293 c294 c295 c296 c297 c298 c299 c300 c301 c302 c303 c304 c305 c306 c307 c308 c309 c310 c311 c312 c313 c314 c315 c316 c317 c318 c319 c320 c321 c322 c323 c324 c325 c326 : Value) (W : World) (ha0 : InBox (spansE r) a0) (hat : ∀ j y, a0[j]? = some y → W.cell? ⟨ga, j, none⟩ = some (.int .i64 y)) (hbr : W.heap[w.heap.size]? = some (.cells #[.int .i64 r.per, .int .i64 r.lo, .int .i64 r.hi, .int .i64 r.card, .int .i64 r.slack, .slice a r.houses.length c, .int .i64 r.all, .int .i64 r.off] 26 (0, 0))) (hbx : W.heap[bx]? = some (boxX 0 (.slice none 0 0) (.slice none 0 0))) (hb1 : ga < bx) (hexit : ∀ (y24 y137 y138 y139 y140 y141 y142 y143 y144 y145 y146 y147 y148 y149 y150 y151 y152 y153 y154 y155 y156 y157 y158 y159 y160 y161 y162 y163 y164 y165 y166 y167 y168 y169 y170 y171 y172 y173 y174 y175 y176 y177 y178 y179 y180 y181 fv lv : Value) (W' : World), W'.heap[bx]? = some (boxX 0 fv lv) → W'.ownsRow W.heap.size 3 1 fv r.houses.length ((fullsE a0 r.houses.length).map (.int .i64)) → W'.ownsRow W.heap.size 3 1 lv r.houses.length ((loosesE a0 r.houses.length).map (.int .i64)) → Touch (· = bx) W W' → Q0 (.exit 6) ⟨#[c0, .pointer (some ⟨w.heap.size, 0, none⟩), c2, c3, c4, c5, c6, .slice (some ⟨ga, 0, none⟩) (2 * r.houses.length) ca, c8, c9, c10, c11, c12, c13, c14, c15, c16, c17, c18, c19, c20, c21, .pointer (some ⟨bx, 0, none⟩), .int .i64 (sumE r a0 r.houses.length), y24, c25, c26, c27, c28, c29, c30, c31, c32, c33, c34, c35, c36, c37, c38, c39, c40, c41, c42, c43, c44, c45, c46, c47, c48, c49, c50, c51, c52, c53, c54, c55, c56, c57, c58, c59, c60, c61, c62, c63, c64, c65, c66, c67, c68, c69, c70, c71, c72, c73, c74, c75, c76, c77, c78, c79, c80, c81, c82, c83, c84, c85, c86, c87, c88, c89, c90, c91, c92, c93, c94, c95, c96, c97, c98, c99, c100, c101, c102, c103, c104, c105, c106, c107, c108, c109, c110, c111, c112, c113, c114, c115, c116, c117, c118, c119, c120, c121, c122, c123, c124, c125, c126, c127, c128, c129, c130, c131, c132, c133, c134, c135, c136, y137, y138, y139, y140, y141, y142, y143, y144, y145, y146, y147, y148, y149, y150, y151, y152, y153, y154, y155, y156, y157, y158, y159, y160, y161, y162, y163, y164, y165, y166, y167, y168, y169, y170, y171, y172, y173, y174, y175, y176, y177, y178, y179, y180, y181, c182, c183, c184, c185, c186, c187, c188, c189, c190, c191, c192, c193, c194, c195, c196, c197, c198, c199, c200, c201, c202, c203, c204, c205, c206, c207, c208, c209, c210, c211, c212, c213, c214, c215, c216, c217, c218, c219, c220, c221, c222, c223, c224, c225, c226, c227, c228, c229, c230, c231, c232, c233, c234, c235, c236, c237, c238, c239, c240, c241, c242, c243, c244, c245, c246, c247, c248, c249, c250, c251, c252, c253, c254, c255, c256, c257, c258, c259, c260, c261, c262, c263, c264, c265, c266, c267, c268, c269, c270, c271, c272, c273, c274, c275, c276, c277, c278, c279, c280, c281, c282, c283, c284, c285, c286, c287, c288, c289, c290, c291, c292, c293, c294, c295, c296, c297, c298, c299, c300, c301, c302, c303, c304, c305, c306, c307, c308, c309, c310, c311, c312, c313, c314, c315, c316, c317, c318, c319, c320, c321, c322, c323, c324, c325, c326], []⟩ W') : Code.wp Tryz.prog (Code.loop endsB3) Q0 ⟨#[c0, .pointer (some ⟨w.heap.size, 0, none⟩), c2, c3, c4, c5, c6, .slice (some ⟨ga, 0, none⟩) (2 * r.houses.length) ca, c8, c9, c10, c11, c12, c13, c14, c15, c16, c17, c18, c19, c20, c21, .pointer (some ⟨bx, 0, none⟩), .int .i64 0, .int .i64 0, c25, c26, c27, c28, c29, c30, c31, c32, c33, c34, c35, c36, c37, c38, c39, c40, c41, c42, c43, c44, c45, c46, c47, c48, c49, c50, c51, c52, c53, c54, c55, c56, c57, c58, c59, c60, c61, c62, c63, c64, c65, c66, c67, c68, c69, c70, c71, c72, c73, c74, c75, c76, c77, c78, c79, c80, c81, c82, c83, c84, c85, c86, c87, c88, c89, c90, c91, c92, c93, c94, c95, c96, c97, c98, c99, c100, c101, c102, c103, c104, c105, c106, c107, c108, c109, c110, c111, c112, c113, c114, c115, c116, c117, c118, c119, c120, c121, c122, c123, c124, c125, c126, c127, c128, c129, c130, c131, c132, c133, c134, c135, c136, c137, c138, c139, c140, c141, c142, c143, c144, c145, c146, c147, c148, c149, c150, c151, c152, c153, c154, c155, c156, c157, c158, c159, c160, c161, c162, c163, c164, c165, c166, c167, c168, c169, c170, c171, c172, c173, c174, c175, c176, c177, c178, c179, c180, c181, c182, c183, c184, c185, c186, c187, c188, c189, c190, c191, c192, c193, c194, c195, c196, c197, c198, c199, c200, c201, c202, c203, c204, c205, c206, c207, c208, c209, c210, c211, c212, c213, c214, c215, c216, c217, c218, c219, c220, c221, c222, c223, c224, c225, c226, c227, c228, c229, c230, c231, c232, c233, c234, c235, c236, c237, c238, c239, c240, c241, c242, c243, c244, c245, c246, c247, c248, c249, c250, c251, c252, c253, c254, c255, c256, c257, c258, c259, c260, c261, c262, c263, c264, c265, c266, c267, c268, c269, c270, c271, c272, c273, c274, c275, c276, c277, c278, c279, c280, c281, c282, c283, c284, c285, c286, c287, c288, c289, c290, c291, c292, c293, c294, c295, c296, c297, c298, c299, c300, c301, c302, c303, c304, c305, c306, c307, c308, c309, c310, c311, c312, c313, c314, c315, c316, c317, c318, c319, c320, c321, c322, c323, c324, c325, c326], []⟩ W := by
  obtain ⟨hB, hb, hra, hxw, -, hsp, o1, o2, o3, o4, o5⟩ := h
  have HE := Lib.hid hexit
  have HBOX := Lib.hid ha0
  have HAT := Lib.hid hat
  have hn2 := hB.h2
  have hn1 := hB.h1
  have hp1 := hB.p1
  have hp2 := hB.p2
  have hlen : a0.length = 2 * r.houses.length := by rw [ha0.1, spansE_length]
  have HLN := Lib.hid hlen
  have HBB := Lib.hid hB
  have hpe := (round_cells hbr).1
  have hnn := (round_cells hbr).2.2.2.2.2.1
  have HPE := Lib.hid hpe
  have HNN := Lib.hid hnn
  have hltW := lt_of_heap hbx
  clear hexit hsp hra hxw hbr hb hat hpe hnn
  have hmix : Tryz.prog.follows .mixedOrders = true := by kernel_rfl
  conv => arg 2; arg 1; whnf
  conv => arg 4; zeta
  go_loopw [23, 24] (fun sv iv wr => ∃ (k : Nat) (fv lv : Value), k ≤ r.houses.length ∧ iv = .int .i64 (k : Int) ∧ sv = .int .i64 (sumE r a0 k) ∧ wr.ownsRow W.heap.size 3 1 fv k ((fullsE a0 k).map (.int .i64)) ∧ wr.ownsRow W.heap.size 3 1 lv k ((loosesE a0 k).map (.int .i64)) ∧ Hid (wr.heap[bx]? = some (boxX 0 fv lv)) ∧ Touch (· = bx) W wr ∧ Hid (ApartV fv lv)) (fun _ iv _ => r.houses.length - (intOf iv).toNat)
  case atStart => exact ⟨0, _, _, Nat.zero_le _, rfl, rfl, World.ownsRow_nil _ _ _ _, World.ownsRow_nil _ _ _ _, hbx, Touch.refl _ _, fun _ => rfl⟩
  case round =>
    clear hbx
    obtain ⟨k, fv, lv, hk, rfl, rfl, hfo, hlo, hbx, ht, hap⟩ := hrel
    have z5 := ht.cell HNN.out (by simp only; omega)
    by_cases hlt : k < r.houses.length
    · obtain ⟨x, hx⟩ : ∃ x, Hid (a0[2 * k]? = some x) := ⟨_, List.getElem?_eq_getElem (by omega)⟩
      obtain ⟨y, hy⟩ : ∃ y, Hid (a0[2 * k + 1]? = some y) := ⟨_, List.getElem?_eq_getElem (by omega)⟩
      have hgx : a0.getD (2 * k) 0 = x := by rw [List.getD_eq_getElem?_getD, hx.out]; rfl
      have hgy : a0.getD (2 * k + 1) 0 = y := by rw [List.getD_eq_getElem?_getD, hy.out]; rfl
      obtain ⟨fa, fc, rfl, _⟩ := RowAt.of_owns hfo
      obtain ⟨la, lc, rfl, _⟩ := RowAt.of_owns hlo
      have hxb := HBOX.out.2 (2 * k) (by rw [spansE_length]; omega)
      have hyb := HBOX.out.2 (2 * k + 1) (by rw [spansE_length]; omega)
      rw [hgx] at hxb
      rw [hgy] at hyb
      have hxs : ∃ p, (spansE r)[2 * k]? = some p := ⟨_, List.getElem?_eq_getElem (by rw [spansE_length]; omega)⟩
      have hys : ∃ p, (spansE r)[2 * k + 1]? = some p := ⟨_, List.getElem?_eq_getElem (by rw [spansE_length]; omega)⟩
      obtain ⟨px, hpx⟩ := hxs
      obtain ⟨py, hpy⟩ := hys
      rw [List.getD_eq_getElem?_getD, hpx, Option.getD_some] at hxb
      rw [List.getD_eq_getElem?_getD, hpy, Option.getD_some] at hyb
      have mx := mem_spansE HBB.out (List.mem_of_getElem? hpx)
      have my := mem_spansE HBB.out (List.mem_of_getElem? hpy)
      have bx1 : 0 ≤ x ∧ x ≤ 60 := by omega
      have by1 : 0 ≤ y ∧ y ≤ 60 := by omega
      have hxp0 : 0 ≤ x * r.per := Int.mul_nonneg bx1.1 (by omega)
      have hxp : x * r.per ≤ 60 * 36 := Int.le_trans (Int.mul_le_mul_of_nonneg_right bx1.2 (by omega)) (Int.mul_le_mul_of_nonneg_left hp2 (by omega))
      have hsb := sumE_bd HBB.out HBOX.out (k := k) (by omega)
      have HSU : Hid (sumE r a0 (k + 1) = sumE r a0 k + x * r.per + y) := by unfold Hid; rw [sumE]; unfold valE nOf; rw [hgx, hgy, Int.mul_comm, Int.add_assoc]
      have HFS : Hid (fullsE a0 (k + 1) = fullsE a0 k ++ [x]) := by unfold Hid; rw [fullsE_succ, hgx]
      have HLS : Hid (loosesE a0 (k + 1) = loosesE a0 k ++ [y]) := by unfold Hid; rw [loosesE_succ, hgy]
      have HFO := Lib.hid hfo
      have HLO := Lib.hid hlo
      have HBX := hbx
      have HTT := Lib.hid ht
      have HAP := hap
      have hltx := lt_of_heap hbx.out
      have hs1 : k + 1 ≤ maxLen ∧ (k + 1) * 8 ≤ 140737488355328 := by unfold maxLen; omega
      have HSZ := Lib.hid hs1
      have hWr := ht.size
      generalize sumE r a0 k = SM at *
      have x2 : decide ((k : Int) < (r.houses.length : Int)) = true := by simpa using hlt
      have x4 : 2 * (k : Int) < 2 * (r.houses.length : Int) := by omega
      have x5 : 2 * (k : Int) + 1 < 2 * (r.houses.length : Int) := by omega
      have x6 : (0 : Int) ≤ 2 * (k : Int) := by omega
      have x7 : (0 : Int) ≤ 2 * (k : Int) + 1 := by omega
      have x8 : (2 * (k : Int)).toNat = 2 * k := by omega
      have x9 : (2 * (k : Int) + 1).toNat = 2 * k + 1 := by omega
      have E1 : IntKind.i64.wrap (2 * (k : Int)) = 2 * (k : Int) := IntWalk.i64_in _ (by omega)
      have E2 : IntKind.i64.wrap (2 * (k : Int) + 1) = 2 * (k : Int) + 1 := IntWalk.i64_in _ (by omega)
      have E3 : IntKind.i64.wrap (x * r.per) = x * r.per := IntWalk.i64_in _ (by omega)
      have E4 : IntKind.i64.wrap (SM + x * r.per) = SM + x * r.per := IntWalk.i64_in _ (by omega)
      have E5 : IntKind.i64.wrap (SM + x * r.per + y) = SM + x * r.per + y := IntWalk.i64_in _ (by omega)
      clear hfo hlo hbx ht hap hgx hgy hxb hyb hpx hpy mx my hs1 hsb
      go_upto_region 31 with fail
      refine wp_region_noPanic ?_
      refine wp_region_any (by kernel_rfl) (wpAny_of_two (S := (fun w' : World => Touch (· = bx) W w')) (T := (fun w' : World => w'.heap[bx]? = some (boxX 0 (.slice fa k fc) (.slice la k lc)))) (zs := [0, 2, 3, 4, 5, 6, 9, 11, 12, 13, 14, 15, 16, 19, 20, 21, 22]) _ _ _ _ ?_)
      change wpTwo _ _ _ _ _ _ _ _ _ _ wr.drew
      have hS := HTT.out.trans (Touch.of_ext (Ext.refl wr).drew)
      have hT0 := show wr.drew.heap[bx]? = some (boxX 0 (.slice fa k fc) (.slice la k lc)) from HBX.out
      refine two_takeS (i := 0) (d := some 144) (v := ?_) (by kernel_rfl) (by rfl) (by kernel_rfl) (by kernel_rfl) (by kernel_rfl) (fun _ _ _ h => h) (fun o ho => ?_) hS ?_
      rotate_left
      · simp only [List.getElem?_toArray, List.getElem?_cons_zero, Option.some.injEq] at ho
        subst ho
        refine ⟨by rfl, fun w' hSw => ?_⟩
        (try dsimp only at hSw)
        go_simp
        try with_reducible rfl
      try simp only [Act.put, List.setIfInBounds_toArray, List.set_cons_zero, List.set_cons_succ]
      refine two_takeS (i := 2) (d := some 146) (v := ?_) (by kernel_rfl) (by rfl) (by kernel_rfl) (by kernel_rfl) (by kernel_rfl) (fun _ _ _ h => h) (fun o ho => ?_) hS ?_
      rotate_left
      · simp only [List.getElem?_toArray, List.getElem?_cons_zero, List.getElem?_cons_succ, Option.some.injEq] at ho
        subst ho
        refine ⟨by rfl, fun w' hSw => ?_⟩
        (try dsimp only at hSw)
        go_simp
        try with_reducible rfl
      try simp only [Act.put, List.setIfInBounds_toArray, List.set_cons_zero, List.set_cons_succ]
      refine two_takeS (i := 3) (d := some 147) (v := ?_) (by kernel_rfl) (by rfl) (by kernel_rfl) (by kernel_rfl) (by kernel_rfl) (fun _ _ _ h => h) (fun o ho => ?_) hS ?_
      rotate_left
      · simp only [List.getElem?_toArray, List.getElem?_cons_zero, List.getElem?_cons_succ, Option.some.injEq] at ho
        subst ho
        refine ⟨by rfl, fun w' hSw => ?_⟩
        (try dsimp only at hSw)
        go_simp
        try with_reducible rfl
      try simp only [Act.put, List.setIfInBounds_toArray, List.set_cons_zero, List.set_cons_succ]
      refine two_takeS (i := 4) (d := some 148) (v := ?_) (by kernel_rfl) (by rfl) (by kernel_rfl) (by kernel_rfl) (by kernel_rfl) (fun _ _ _ h => h) (fun o ho => ?_) hS ?_
      rotate_left
      · simp only [List.getElem?_toArray, List.getElem?_cons_zero, List.getElem?_cons_succ, Option.some.injEq] at ho
        subst ho
        refine ⟨by rfl, fun w' hSw => ?_⟩
        (try dsimp only at hSw)
        go_simp
        try with_reducible rfl
      try simp only [Act.put, List.setIfInBounds_toArray, List.set_cons_zero, List.set_cons_succ]
      refine two_takeS (i := 5) (d := some 149) (v := ?_) (by kernel_rfl) (by rfl) (by kernel_rfl) (by kernel_rfl) (by kernel_rfl) (fun _ _ _ h => h) (fun o ho => ?_) hS ?_
      rotate_left
      · simp only [List.getElem?_toArray, List.getElem?_cons_zero, List.getElem?_cons_succ, Option.some.injEq] at ho
        subst ho
        refine ⟨by rfl, fun w' hSw => ?_⟩
        (try dsimp only at hSw)
        go_simp
        try with_reducible rfl
      try simp only [Act.put, List.setIfInBounds_toArray, List.set_cons_zero, List.set_cons_succ]
      refine two_takeS (i := 6) (d := some 150) (v := ?_) (by kernel_rfl) (by rfl) (by kernel_rfl) (by kernel_rfl) (by kernel_rfl) (fun _ _ _ h => h) (fun o ho => ?_) hS ?_
      rotate_left
      · simp only [List.getElem?_toArray, List.getElem?_cons_zero, List.getElem?_cons_succ, Option.some.injEq] at ho
        subst ho
        refine ⟨by rfl, fun w' hSw => ?_⟩
        have d0 := hSw.cell (HAT.out _ _ hx.out) (by simp only; omega)
        have d1 := hSw.cell (HAT.out _ _ hy.out) (by simp only; omega)
        clear hSw
        go_simp
        try with_reducible rfl
      try simp only [Act.put, List.setIfInBounds_toArray, List.set_cons_zero, List.set_cons_succ]
      refine two_takeS (i := 9) (d := some 153) (v := ?_) (by kernel_rfl) (by rfl) (by kernel_rfl) (by kernel_rfl) (by kernel_rfl) (fun _ _ _ h => h) (fun o ho => ?_) hS ?_
      rotate_left
      · simp only [List.getElem?_toArray, List.getElem?_cons_zero, List.getElem?_cons_succ, Option.some.injEq] at ho
        subst ho
        refine ⟨by rfl, fun w' hSw => ?_⟩
        (try dsimp only at hSw)
        go_simp
        try with_reducible rfl
      try simp only [Act.put, List.setIfInBounds_toArray, List.set_cons_zero, List.set_cons_succ]
      refine two_takeS (i := 11) (d := some 155) (v := ?_) (by kernel_rfl) (by rfl) (by kernel_rfl) (by kernel_rfl) (by kernel_rfl) (fun _ _ _ h => h) (fun o ho => ?_) hS ?_
      rotate_left
      · simp only [List.getElem?_toArray, List.getElem?_cons_zero, List.getElem?_cons_succ, Option.some.injEq] at ho
        subst ho
        refine ⟨by rfl, fun w' hSw => ?_⟩
        (try dsimp only at hSw)
        go_simp
        try with_reducible rfl
      try simp only [Act.put, List.setIfInBounds_toArray, List.set_cons_zero, List.set_cons_succ]
      refine two_takeS (i := 12) (d := some 156) (v := ?_) (by kernel_rfl) (by rfl) (by kernel_rfl) (by kernel_rfl) (by kernel_rfl) (fun _ _ _ h => h) (fun o ho => ?_) hS ?_
      rotate_left
      · simp only [List.getElem?_toArray, List.getElem?_cons_zero, List.getElem?_cons_succ, Option.some.injEq] at ho
        subst ho
        refine ⟨by rfl, fun w' hSw => ?_⟩
        (try dsimp only at hSw)
        go_simp
        try with_reducible rfl
      try simp only [Act.put, List.setIfInBounds_toArray, List.set_cons_zero, List.set_cons_succ]
      refine two_takeS (i := 13) (d := some 157) (v := ?_) (by kernel_rfl) (by rfl) (by kernel_rfl) (by kernel_rfl) (by kernel_rfl) (fun _ _ _ h => h) (fun o ho => ?_) hS ?_
      rotate_left
      · simp only [List.getElem?_toArray, List.getElem?_cons_zero, List.getElem?_cons_succ, Option.some.injEq] at ho
        subst ho
        refine ⟨by rfl, fun w' hSw => ?_⟩
        (try dsimp only at hSw)
        go_simp
        try with_reducible rfl
      try simp only [Act.put, List.setIfInBounds_toArray, List.set_cons_zero, List.set_cons_succ]
      refine two_takeS (i := 14) (d := some 158) (v := ?_) (by kernel_rfl) (by rfl) (by kernel_rfl) (by kernel_rfl) (by kernel_rfl) (fun _ _ _ h => h) (fun o ho => ?_) hS ?_
      rotate_left
      · simp only [List.getElem?_toArray, List.getElem?_cons_zero, List.getElem?_cons_succ, Option.some.injEq] at ho
        subst ho
        refine ⟨by rfl, fun w' hSw => ?_⟩
        (try dsimp only at hSw)
        go_simp
        try with_reducible rfl
      try simp only [Act.put, List.setIfInBounds_toArray, List.set_cons_zero, List.set_cons_succ]
      refine two_takeS (i := 15) (d := some 159) (v := ?_) (by kernel_rfl) (by rfl) (by kernel_rfl) (by kernel_rfl) (by kernel_rfl) (fun _ _ _ h => h) (fun o ho => ?_) hS ?_
      rotate_left
      · simp only [List.getElem?_toArray, List.getElem?_cons_zero, List.getElem?_cons_succ, Option.some.injEq] at ho
        subst ho
        refine ⟨by rfl, fun w' hSw => ?_⟩
        (try dsimp only at hSw)
        go_simp
        try with_reducible rfl
      try simp only [Act.put, List.setIfInBounds_toArray, List.set_cons_zero, List.set_cons_succ]
      refine two_takeS (i := 16) (d := some 160) (v := ?_) (by kernel_rfl) (by rfl) (by kernel_rfl) (by kernel_rfl) (by kernel_rfl) (fun _ _ _ h => h) (fun o ho => ?_) hS ?_
      rotate_left
      · simp only [List.getElem?_toArray, List.getElem?_cons_zero, List.getElem?_cons_succ, Option.some.injEq] at ho
        subst ho
        refine ⟨by rfl, fun w' hSw => ?_⟩
        have d0 := hSw.cell (HAT.out _ _ hx.out) (by simp only; omega)
        have d1 := hSw.cell (HAT.out _ _ hy.out) (by simp only; omega)
        clear hSw
        go_simp
        try with_reducible rfl
      try simp only [Act.put, List.setIfInBounds_toArray, List.set_cons_zero, List.set_cons_succ]
      refine two_takeT (i := 1) (d := some 145) (v := ?_) (by kernel_rfl) (by kernel_rfl) (by kernel_rfl) (by kernel_rfl) (by kernel_rfl) (fun _ _ _ h => h) (fun o ho => ?_) hS hT0 ?_
      rotate_left
      · simp only [List.getElem?_toArray, List.getElem?_cons_zero, List.getElem?_cons_succ, Option.some.injEq] at ho
        subst ho
        refine ⟨by rfl, fun w' hSw => ?_⟩
        obtain ⟨⟨-, e1, e2⟩, -, -, -⟩ := boxX_cells hSw
        clear hSw
        go_simp
        try with_reducible rfl
      try simp only [Act.put, List.setIfInBounds_toArray, List.set_cons_zero, List.set_cons_succ]
      refine two_takeT (i := 10) (d := some 154) (v := ?_) (by kernel_rfl) (by kernel_rfl) (by kernel_rfl) (by kernel_rfl) (by kernel_rfl) (fun _ _ _ h => h) (fun o ho => ?_) hS hT0 ?_
      rotate_left
      · simp only [List.getElem?_toArray, List.getElem?_cons_zero, List.getElem?_cons_succ, Option.some.injEq] at ho
        subst ho
        refine ⟨by rfl, fun w' hSw => ?_⟩
        obtain ⟨⟨-, e1, e2⟩, -, -, -⟩ := boxX_cells hSw
        clear hSw
        go_simp
        try with_reducible rfl
      try simp only [Act.put, List.setIfInBounds_toArray, List.set_cons_zero, List.set_cons_succ]
      refine two_ready (rs := [7, 17]) (by kernel_rfl) (by simp) ?_
      refine two_step (i := 7) (by kernel_rfl) (fun o ho K' hK => ?_) ?_
      · simp only [List.getElem?_toArray, List.getElem?_cons_zero, List.getElem?_cons_succ, Option.some.injEq] at ho
        subst ho
        go_simp
        refine hK.out _ _ ?_ ?_ (fun hS hT => ?_)
        · exact HTT.out.trans (Touch.of_ext (((Ext.refl wr).drew).alloc _))
        · exact fun _ => ((((Ext.refl wr).drew).alloc _).block hltx).trans HBX.out
        clear hK K' hT
        try simp only [Act.put, List.setIfInBounds_toArray, List.set_cons_zero, List.set_cons_succ]
        refine two_ready (rs := [8, 17]) (by kernel_rfl) (by simp) ?_
        refine two_step (i := 8) (by kernel_rfl) (fun o ho K' hK => ?_) ?_
        · simp only [List.getElem?_toArray, List.getElem?_cons_zero, List.getElem?_cons_succ, Option.some.injEq] at ho
          subst ho
          have hE8 : Ext wr (wr.drew.alloc (.cells #[.int .i64 x] 3)) := (((Ext.refl wr).drew).alloc _)
          refine step_push_row E_ints (by rfl) _ _ (by rfl) W.heap.size (by rfl) (owns_ext HFO.out hE8) (by rfl) ((Ext.refl _).cell (cell_at wr.drew (.int .i64 x) 3 _ (by simp))) rfl ?_ HSZ.out.1 HSZ.out.2 (Nat.le_trans hWr hE8.size)
          intro g8 cap8 w8 hown8 hg8 hloc8
          have hb8 := (hg8.block bx (Nat.lt_of_lt_of_le hltx hE8.size) (fun e => by have := owns_block HFO.out _ e.symm; omega)).trans ((hE8.block hltx).trans HBX.out)
          have ht8 : Touch (· = bx) W w8 := Touch.of_new (N := fun k => k = bx ∨ W.heap.size ≤ k) (((HTT.out.trans (Touch.of_ext hE8)).mono (fun k h => Or.inl h)).trans (Touch.grown hg8 (fun k hk => Or.inr (owns_block HFO.out k hk)))) (fun k h hk => h.elim id (fun h => by omega))
          have hl8 := (owns_ext HLO.out hE8).kept hg8 HAP.out.keep
          have hn8 : (Value.ownBlock (.slice la k lc)) ≠ some g8 := fun e => by
            rcases hloc8 with h | h
            · have h2 := HAP.out (h.trans e.symm); rw [h] at h2; cases h2
            · exact Nat.lt_irrefl _ (Nat.lt_of_lt_of_le (World.ownsRow.lt HLO.out g8 e).2 (Nat.le_trans hE8.size (Nat.le_of_eq h.symm)))
          have H8 := Lib.hid (And.intro hown8 (And.intro hb8 (And.intro ht8 (And.intro hl8 hn8))))
          have hlt8 : bx < w8.heap.size := lt_of_heap hb8
          have hlg8 := (World.ownsRow.lt hown8 g8 rfl)
          clear hown8 hg8 hloc8 hb8 ht8 hl8 hn8
          refine hK.out _ _ ?_ ?_ (fun hS hT => ?_)
          · exact H8.out.2.2.1
          · exact fun _ => H8.out.2.1
          clear hK K' hT
          try simp only [Act.put, List.setIfInBounds_toArray, List.set_cons_zero, List.set_cons_succ]
          refine two_takeS (i := 19) (d := some 163) (v := ?_) (by kernel_rfl) (by rfl) (by kernel_rfl) (by kernel_rfl) (by kernel_rfl) (fun _ _ _ h => h) (fun o ho => ?_) hS ?_
          rotate_left
          · simp only [List.getElem?_toArray, List.getElem?_cons_zero, List.getElem?_cons_succ, Option.some.injEq] at ho
            subst ho
            refine ⟨by rfl, fun w' hSw => ?_⟩
            (try dsimp only at hSw)
            go_simp
            try with_reducible rfl
          try simp only [Act.put, List.setIfInBounds_toArray, List.set_cons_zero, List.set_cons_succ]
          refine two_ready (rs := [17]) (by kernel_rfl) (by simp) ?_
          refine two_step (i := 17) (by kernel_rfl) (fun o ho K' hK => ?_) ?_
          · simp only [List.getElem?_toArray, List.getElem?_cons_zero, List.getElem?_cons_succ, Option.some.injEq] at ho
            subst ho
            go_simp
            refine hK.out _ _ ?_ ?_ (fun hS hT => ?_)
            · exact H8.out.2.2.1.trans (Touch.of_ext ((Ext.refl w8).alloc _))
            · exact fun _ => (((Ext.refl w8).alloc _).block hlt8).trans H8.out.2.1
            clear hK K' hT
            try simp only [Act.put, List.setIfInBounds_toArray, List.set_cons_zero, List.set_cons_succ]
            refine two_ready (rs := [18]) (by kernel_rfl) (by simp) ?_
            refine two_step (i := 18) (by kernel_rfl) (fun o ho K' hK => ?_) ?_
            · simp only [List.getElem?_toArray, List.getElem?_cons_zero, List.getElem?_cons_succ, Option.some.injEq] at ho
              subst ho
              have hE18 : Ext w8 (w8.alloc (.cells #[.int .i64 y] 3)) := ((Ext.refl w8).alloc (.cells #[.int .i64 y] 3))
              refine step_push_row E_ints (by rfl) _ _ (by rfl) W.heap.size (by rfl) (owns_ext H8.out.2.2.2.1 hE18) (by rfl) (cell_at w8 (.int .i64 y) 3 _ (by simp)) rfl ?_ HSZ.out.1 HSZ.out.2 (Nat.le_trans H8.out.2.2.1.size hE18.size)
              intro g18 cap18 w18 hown18 hg18 hloc18
              have hb18 := (hg18.block bx (Nat.lt_of_lt_of_le hlt8 hE18.size) (fun e => by have := owns_block HLO.out _ e.symm; omega)).trans ((hE18.block hlt8).trans H8.out.2.1)
              have ht18 : Touch (· = bx) W w18 := Touch.of_new (N := fun k => k = bx ∨ W.heap.size ≤ k) (((H8.out.2.2.1.trans (Touch.of_ext hE18)).mono (fun k h => Or.inl h)).trans (Touch.grown hg18 (fun k hk => Or.inr (owns_block HLO.out k hk)))) (fun k h hk => h.elim id (fun h => by omega))
              have hf18 := (owns_ext H8.out.1 hE18).kept hg18 (.inr (fun e => H8.out.2.2.2.2 e.symm))
              have hn18 : g8 ≠ g18 := fun e => by
                rcases hloc18 with h | h
                · exact H8.out.2.2.2.2 (by rw [e]; exact h)
                · exact Nat.lt_irrefl _ (Nat.lt_of_lt_of_le hlg8.2 (Nat.le_trans hE18.size (Nat.le_of_eq (h.symm.trans e.symm))))
              have hlg18 := (World.ownsRow.lt hown18 g18 rfl).1
              have H18 := Lib.hid (And.intro hown18 (And.intro hb18 (And.intro ht18 (And.intro hf18 hn18))))
              obtain ⟨⟨q0, q1, q2⟩, r0, r1, r2⟩ := boxX_cells hb18
              clear hown18 hg18 hloc18 hb18 ht18 hf18 hn18
              refine hK.out _ _ ?_ ?_ (fun hS hT => ?_)
              · exact H18.out.2.2.1
              · exact fun _ => H18.out.2.1
              clear hK K' hT
              try simp only [Act.put, List.setIfInBounds_toArray, List.set_cons_zero, List.set_cons_succ]
              refine two_ready (rs := [20]) (by kernel_rfl) (by simp) ?_
              refine two_step (i := 20) (by kernel_rfl) (fun o ho K' hK => ?_) ?_
              · simp only [List.getElem?_toArray, List.getElem?_cons_zero, List.getElem?_cons_succ, Option.some.injEq] at ho
                subst ho
                go_simp
                refine hK.out _ _ ?_ ?_ (fun hS hT => ?_)
                · exact H18.out.2.2.1.trans (Touch.setCell (M := (· = bx)) (a := ⟨bx, 1, none⟩) _ rfl)
                · intro hc; cases hc
                clear hK K' hT
                try simp only [Act.put, List.setIfInBounds_toArray, List.set_cons_zero, List.set_cons_succ]
                refine two_takeS (i := 21) (d := some 164) (v := ?_) (by kernel_rfl) (by rfl) (by kernel_rfl) (by kernel_rfl) (by kernel_rfl) (fun _ _ _ h => h) (fun o ho => ?_) hS ?_
                rotate_left
                · simp only [List.getElem?_toArray, List.getElem?_cons_zero, List.getElem?_cons_succ, Option.some.injEq] at ho
                  subst ho
                  refine ⟨by rfl, fun w' hSw => ?_⟩
                  (try dsimp only at hSw)
                  go_simp
                  try with_reducible rfl
                try simp only [Act.put, List.setIfInBounds_toArray, List.set_cons_zero, List.set_cons_succ]
                refine two_ready (rs := [22]) (by kernel_rfl) (by simp) ?_
                refine two_step (i := 22) (by kernel_rfl) (fun o ho K' hK => ?_) ?_
                · simp only [List.getElem?_toArray, List.getElem?_cons_zero, List.getElem?_cons_succ, Option.some.injEq] at ho
                  subst ho
                  go_simp
                  refine hK.out _ _ ?_ ?_ (fun hS hT => ?_)
                  · exact (H18.out.2.2.1.trans (Touch.setCell (M := (· = bx)) (a := ⟨bx, 1, none⟩) _ rfl)).trans (Touch.setCell (M := (· = bx)) (a := ⟨bx, 2, none⟩) _ rfl)
                  · intro hc; cases hc
                  clear hK K' hT
                  try simp only [Act.put, List.setIfInBounds_toArray, List.set_cons_zero, List.set_cons_succ]
                  refine two_done (by kernel_rfl) ?_ _
                  refine NoPanic.normal ?_
                  try simp only [List.setIfInBounds_toArray, List.set_cons_zero, List.set_cons_succ]
                  have HWF := Lib.hid (And.intro (ownsRow_setCell_other (ownsRow_setCell_other H18.out.2.2.2.1 (a := ⟨bx, 1, none⟩) (by simp [Value.ownBlock]; omega) (.slice (some ⟨g8, 0, none⟩) (k + 1) cap8)) (a := ⟨bx, 2, none⟩) (by simp [Value.ownBlock]; omega) (.slice (some ⟨g18, 0, none⟩) (k + 1) cap18)) (And.intro (ownsRow_setCell_other (ownsRow_setCell_other H18.out.1 (a := ⟨bx, 1, none⟩) (by simp [Value.ownBlock]; omega) (.slice (some ⟨g8, 0, none⟩) (k + 1) cap8)) (a := ⟨bx, 2, none⟩) (by simp [Value.ownBlock]; omega) (.slice (some ⟨g18, 0, none⟩) (k + 1) cap18)) (And.intro (setCell_block (i := 2) (v := (.slice (some ⟨g18, 0, none⟩) (k + 1) cap18)) (setCell_block (i := 1) (v := (.slice (some ⟨g8, 0, none⟩) (k + 1) cap8)) H18.out.2.1)) hS)))
                  have d0 := hS.cell (HAT.out _ _ hx.out) (by simp only; omega)
                  have d1 := hS.cell (HAT.out _ _ hy.out) (by simp only; omega)
                  have d2 := hS.cell HPE.out (by simp only; omega)
                  have HNE : Hid (g8 ≠ g18) := H18.out.2.2.2.2
                  clear hS hT0 q0 q1 q2 r0 r1 r2
                  generalize ((w18.setCell ⟨bx, 1, none⟩ (.slice (some ⟨g8, 0, none⟩) (k + 1) cap8)).setCell ⟨bx, 2, none⟩ (.slice (some ⟨g18, 0, none⟩) (k + 1) cap18)) = WF at *
                  go_wp2
                  go_quiet (fail)
                  go_wp2
                  refine ⟨⟨k + 1, _, _, by omega, by go_num, by rw [HSU.out], by rw [HFS.out, List.map_append]; exact owns_ext HWF.out.1 ((Ext.refl _).drewN _), by rw [HLS.out, List.map_append]; exact owns_ext HWF.out.2.1 ((Ext.refl _).drewN _), HWF.out.2.2.1, HWF.out.2.2.2.trans (Touch.of_ext ((Ext.refl _).drewN _)), fun e => absurd (by simpa [Value.ownBlock] using e) HNE.out⟩, by simp [intOf] <;> omega⟩
                exact AllTwo.nil
              exact AllTwo.nil
            exact AllTwo.nil
          exact AllTwo.nil
        refine two_step (i := 17) (by kernel_rfl) (fun o ho K' hK => ?_) ?_
        · simp only [List.getElem?_toArray, List.getElem?_cons_zero, List.getElem?_cons_succ, Option.some.injEq] at ho
          subst ho
          go_simp
          refine hK.out _ _ ?_ ?_ (fun hS hT => ?_)
          · exact HTT.out.trans (Touch.of_ext ((((Ext.refl wr).drew).alloc _).alloc _))
          · exact fun _ => (((((Ext.refl wr).drew).alloc _).alloc _).block hltx).trans HBX.out
          clear hK K' hT
          try simp only [Act.put, List.setIfInBounds_toArray, List.set_cons_zero, List.set_cons_succ]
          refine two_ready (rs := [8]) (by kernel_rfl) (by simp) ?_
          refine two_step (i := 8) (by kernel_rfl) (fun o ho K' hK => ?_) ?_
          · simp only [List.getElem?_toArray, List.getElem?_cons_zero, List.getElem?_cons_succ, Option.some.injEq] at ho
            subst ho
            have hE8 : Ext wr ((wr.drew.alloc (.cells #[.int .i64 x] 3)).alloc (.cells #[.int .i64 y] 3)) := ((((Ext.refl wr).drew).alloc _).alloc _)
            refine step_push_row E_ints (by rfl) _ _ (by rfl) W.heap.size (by rfl) (owns_ext HFO.out hE8) (by rfl) (((Ext.refl _).alloc _).cell (cell_at wr.drew (.int .i64 x) 3 _ (by simp))) rfl ?_ HSZ.out.1 HSZ.out.2 (Nat.le_trans hWr hE8.size)
            intro g8 cap8 w8 hown8 hg8 hloc8
            have hb8 := (hg8.block bx (Nat.lt_of_lt_of_le hltx hE8.size) (fun e => by have := owns_block HFO.out _ e.symm; omega)).trans ((hE8.block hltx).trans HBX.out)
            have ht8 : Touch (· = bx) W w8 := Touch.of_new (N := fun k => k = bx ∨ W.heap.size ≤ k) (((HTT.out.trans (Touch.of_ext hE8)).mono (fun k h => Or.inl h)).trans (Touch.grown hg8 (fun k hk => Or.inr (owns_block HFO.out k hk)))) (fun k h hk => h.elim id (fun h => by omega))
            have hl8 := (owns_ext HLO.out hE8).kept hg8 HAP.out.keep
            have hn8 : (Value.ownBlock (.slice la k lc)) ≠ some g8 := fun e => by
              rcases hloc8 with h | h
              · have h2 := HAP.out (h.trans e.symm); rw [h] at h2; cases h2
              · exact Nat.lt_irrefl _ (Nat.lt_of_lt_of_le (World.ownsRow.lt HLO.out g8 e).2 (Nat.le_trans hE8.size (Nat.le_of_eq h.symm)))
            have H8 := Lib.hid (And.intro hown8 (And.intro hb8 (And.intro ht8 (And.intro hl8 hn8))))
            have hy8 : w8.cell? ⟨wr.heap.size + 1, 0, none⟩ = some (.int .i64 y) := (Touch.grown (M := fun q => (Value.slice fa k fc).ownBlock = some q) hg8 (fun q hq => hq)).cell ((Ext.refl _).cell (cell_at (wr.drew.alloc (.cells #[.int .i64 x] 3)) (.int .i64 y) 3 _ (by simp))) (fun e => by have h2 := (World.ownsRow.lt HFO.out _ e).2; simp only at h2; omega)
            have HY8 := Lib.hid hy8
            have hlt8 : bx < w8.heap.size := lt_of_heap hb8
            have hlg8 := (World.ownsRow.lt hown8 g8 rfl)
            clear hown8 hg8 hloc8 hb8 ht8 hl8 hn8 hy8
            refine hK.out _ _ ?_ ?_ (fun hS hT => ?_)
            · exact H8.out.2.2.1
            · exact fun _ => H8.out.2.1
            clear hK K' hT
            try simp only [Act.put, List.setIfInBounds_toArray, List.set_cons_zero, List.set_cons_succ]
            refine two_takeS (i := 19) (d := some 163) (v := ?_) (by kernel_rfl) (by rfl) (by kernel_rfl) (by kernel_rfl) (by kernel_rfl) (fun _ _ _ h => h) (fun o ho => ?_) hS ?_
            rotate_left
            · simp only [List.getElem?_toArray, List.getElem?_cons_zero, List.getElem?_cons_succ, Option.some.injEq] at ho
              subst ho
              refine ⟨by rfl, fun w' hSw => ?_⟩
              (try dsimp only at hSw)
              go_simp
              try with_reducible rfl
            try simp only [Act.put, List.setIfInBounds_toArray, List.set_cons_zero, List.set_cons_succ]
            refine two_ready (rs := [18]) (by kernel_rfl) (by simp) ?_
            refine two_step (i := 18) (by kernel_rfl) (fun o ho K' hK => ?_) ?_
            · simp only [List.getElem?_toArray, List.getElem?_cons_zero, List.getElem?_cons_succ, Option.some.injEq] at ho
              subst ho
              have hE18 : Ext w8 w8 := (Ext.refl w8)
              refine step_push_row E_ints (by rfl) _ _ (by rfl) W.heap.size (by rfl) (owns_ext H8.out.2.2.2.1 hE18) (by rfl) (HY8.out) rfl ?_ HSZ.out.1 HSZ.out.2 (Nat.le_trans H8.out.2.2.1.size hE18.size)
              intro g18 cap18 w18 hown18 hg18 hloc18
              have hb18 := (hg18.block bx (Nat.lt_of_lt_of_le hlt8 hE18.size) (fun e => by have := owns_block HLO.out _ e.symm; omega)).trans ((hE18.block hlt8).trans H8.out.2.1)
              have ht18 : Touch (· = bx) W w18 := Touch.of_new (N := fun k => k = bx ∨ W.heap.size ≤ k) (((H8.out.2.2.1.trans (Touch.of_ext hE18)).mono (fun k h => Or.inl h)).trans (Touch.grown hg18 (fun k hk => Or.inr (owns_block HLO.out k hk)))) (fun k h hk => h.elim id (fun h => by omega))
              have hf18 := (owns_ext H8.out.1 hE18).kept hg18 (.inr (fun e => H8.out.2.2.2.2 e.symm))
              have hn18 : g8 ≠ g18 := fun e => by
                rcases hloc18 with h | h
                · exact H8.out.2.2.2.2 (by rw [e]; exact h)
                · exact Nat.lt_irrefl _ (Nat.lt_of_lt_of_le hlg8.2 (Nat.le_trans hE18.size (Nat.le_of_eq (h.symm.trans e.symm))))
              have hlg18 := (World.ownsRow.lt hown18 g18 rfl).1
              have H18 := Lib.hid (And.intro hown18 (And.intro hb18 (And.intro ht18 (And.intro hf18 hn18))))
              obtain ⟨⟨q0, q1, q2⟩, r0, r1, r2⟩ := boxX_cells hb18
              clear hown18 hg18 hloc18 hb18 ht18 hf18 hn18
              refine hK.out _ _ ?_ ?_ (fun hS hT => ?_)
              · exact H18.out.2.2.1
              · exact fun _ => H18.out.2.1
              clear hK K' hT
              try simp only [Act.put, List.setIfInBounds_toArray, List.set_cons_zero, List.set_cons_succ]
              refine two_ready (rs := [20]) (by kernel_rfl) (by simp) ?_
              refine two_step (i := 20) (by kernel_rfl) (fun o ho K' hK => ?_) ?_
              · simp only [List.getElem?_toArray, List.getElem?_cons_zero, List.getElem?_cons_succ, Option.some.injEq] at ho
                subst ho
                go_simp
                refine hK.out _ _ ?_ ?_ (fun hS hT => ?_)
                · exact H18.out.2.2.1.trans (Touch.setCell (M := (· = bx)) (a := ⟨bx, 1, none⟩) _ rfl)
                · intro hc; cases hc
                clear hK K' hT
                try simp only [Act.put, List.setIfInBounds_toArray, List.set_cons_zero, List.set_cons_succ]
                refine two_takeS (i := 21) (d := some 164) (v := ?_) (by kernel_rfl) (by rfl) (by kernel_rfl) (by kernel_rfl) (by kernel_rfl) (fun _ _ _ h => h) (fun o ho => ?_) hS ?_
                rotate_left
                · simp only [List.getElem?_toArray, List.getElem?_cons_zero, List.getElem?_cons_succ, Option.some.injEq] at ho
                  subst ho
                  refine ⟨by rfl, fun w' hSw => ?_⟩
                  (try dsimp only at hSw)
                  go_simp
                  try with_reducible rfl
                try simp only [Act.put, List.setIfInBounds_toArray, List.set_cons_zero, List.set_cons_succ]
                refine two_ready (rs := [22]) (by kernel_rfl) (by simp) ?_
                refine two_step (i := 22) (by kernel_rfl) (fun o ho K' hK => ?_) ?_
                · simp only [List.getElem?_toArray, List.getElem?_cons_zero, List.getElem?_cons_succ, Option.some.injEq] at ho
                  subst ho
                  go_simp
                  refine hK.out _ _ ?_ ?_ (fun hS hT => ?_)
                  · exact (H18.out.2.2.1.trans (Touch.setCell (M := (· = bx)) (a := ⟨bx, 1, none⟩) _ rfl)).trans (Touch.setCell (M := (· = bx)) (a := ⟨bx, 2, none⟩) _ rfl)
                  · intro hc; cases hc
                  clear hK K' hT
                  try simp only [Act.put, List.setIfInBounds_toArray, List.set_cons_zero, List.set_cons_succ]
                  refine two_done (by kernel_rfl) ?_ _
                  refine NoPanic.normal ?_
                  try simp only [List.setIfInBounds_toArray, List.set_cons_zero, List.set_cons_succ]
                  have HWF := Lib.hid (And.intro (ownsRow_setCell_other (ownsRow_setCell_other H18.out.2.2.2.1 (a := ⟨bx, 1, none⟩) (by simp [Value.ownBlock]; omega) (.slice (some ⟨g8, 0, none⟩) (k + 1) cap8)) (a := ⟨bx, 2, none⟩) (by simp [Value.ownBlock]; omega) (.slice (some ⟨g18, 0, none⟩) (k + 1) cap18)) (And.intro (ownsRow_setCell_other (ownsRow_setCell_other H18.out.1 (a := ⟨bx, 1, none⟩) (by simp [Value.ownBlock]; omega) (.slice (some ⟨g8, 0, none⟩) (k + 1) cap8)) (a := ⟨bx, 2, none⟩) (by simp [Value.ownBlock]; omega) (.slice (some ⟨g18, 0, none⟩) (k + 1) cap18)) (And.intro (setCell_block (i := 2) (v := (.slice (some ⟨g18, 0, none⟩) (k + 1) cap18)) (setCell_block (i := 1) (v := (.slice (some ⟨g8, 0, none⟩) (k + 1) cap8)) H18.out.2.1)) hS)))
                  have d0 := hS.cell (HAT.out _ _ hx.out) (by simp only; omega)
                  have d1 := hS.cell (HAT.out _ _ hy.out) (by simp only; omega)
                  have d2 := hS.cell HPE.out (by simp only; omega)
                  have HNE : Hid (g8 ≠ g18) := H18.out.2.2.2.2
                  clear hS hT0 q0 q1 q2 r0 r1 r2
                  generalize ((w18.setCell ⟨bx, 1, none⟩ (.slice (some ⟨g8, 0, none⟩) (k + 1) cap8)).setCell ⟨bx, 2, none⟩ (.slice (some ⟨g18, 0, none⟩) (k + 1) cap18)) = WF at *
                  go_wp2
                  go_quiet (fail)
                  go_wp2
                  refine ⟨⟨k + 1, _, _, by omega, by go_num, by rw [HSU.out], by rw [HFS.out, List.map_append]; exact owns_ext HWF.out.1 ((Ext.refl _).drewN _), by rw [HLS.out, List.map_append]; exact owns_ext HWF.out.2.1 ((Ext.refl _).drewN _), HWF.out.2.2.1, HWF.out.2.2.2.trans (Touch.of_ext ((Ext.refl _).drewN _)), fun e => absurd (by simpa [Value.ownBlock] using e) HNE.out⟩, by simp [intOf] <;> omega⟩
                exact AllTwo.nil
              exact AllTwo.nil
            exact AllTwo.nil
          exact AllTwo.nil
        exact AllTwo.nil
      refine two_step (i := 17) (by kernel_rfl) (fun o ho K' hK => ?_) ?_
      · simp only [List.getElem?_toArray, List.getElem?_cons_zero, List.getElem?_cons_succ, Option.some.injEq] at ho
        subst ho
        go_simp
        refine hK.out _ _ ?_ ?_ (fun hS hT => ?_)
        · exact HTT.out.trans (Touch.of_ext (((Ext.refl wr).drew).alloc _))
        · exact fun _ => ((((Ext.refl wr).drew).alloc _).block hltx).trans HBX.out
        clear hK K' hT
        try simp only [Act.put, List.setIfInBounds_toArray, List.set_cons_zero, List.set_cons_succ]
        refine two_ready (rs := [7]) (by kernel_rfl) (by simp) ?_
        refine two_step (i := 7) (by kernel_rfl) (fun o ho K' hK => ?_) ?_
        · simp only [List.getElem?_toArray, List.getElem?_cons_zero, List.getElem?_cons_succ, Option.some.injEq] at ho
          subst ho
          go_simp
          refine hK.out _ _ ?_ ?_ (fun hS hT => ?_)
          · exact HTT.out.trans (Touch.of_ext ((((Ext.refl wr).drew).alloc _).alloc _))
          · exact fun _ => (((((Ext.refl wr).drew).alloc _).alloc _).block hltx).trans HBX.out
          clear hK K' hT
          try simp only [Act.put, List.setIfInBounds_toArray, List.set_cons_zero, List.set_cons_succ]
          refine two_ready (rs := [8]) (by kernel_rfl) (by simp) ?_
          refine two_step (i := 8) (by kernel_rfl) (fun o ho K' hK => ?_) ?_
          · simp only [List.getElem?_toArray, List.getElem?_cons_zero, List.getElem?_cons_succ, Option.some.injEq] at ho
            subst ho
            have hE8 : Ext wr ((wr.drew.alloc (.cells #[.int .i64 y] 3)).alloc (.cells #[.int .i64 x] 3)) := ((((Ext.refl wr).drew).alloc _).alloc _)
            refine step_push_row E_ints (by rfl) _ _ (by rfl) W.heap.size (by rfl) (owns_ext HFO.out hE8) (by rfl) ((Ext.refl _).cell (cell_at (wr.drew.alloc (.cells #[.int .i64 y] 3)) (.int .i64 x) 3 _ (by simp))) rfl ?_ HSZ.out.1 HSZ.out.2 (Nat.le_trans hWr hE8.size)
            intro g8 cap8 w8 hown8 hg8 hloc8
            have hb8 := (hg8.block bx (Nat.lt_of_lt_of_le hltx hE8.size) (fun e => by have := owns_block HFO.out _ e.symm; omega)).trans ((hE8.block hltx).trans HBX.out)
            have ht8 : Touch (· = bx) W w8 := Touch.of_new (N := fun k => k = bx ∨ W.heap.size ≤ k) (((HTT.out.trans (Touch.of_ext hE8)).mono (fun k h => Or.inl h)).trans (Touch.grown hg8 (fun k hk => Or.inr (owns_block HFO.out k hk)))) (fun k h hk => h.elim id (fun h => by omega))
            have hl8 := (owns_ext HLO.out hE8).kept hg8 HAP.out.keep
            have hn8 : (Value.ownBlock (.slice la k lc)) ≠ some g8 := fun e => by
              rcases hloc8 with h | h
              · have h2 := HAP.out (h.trans e.symm); rw [h] at h2; cases h2
              · exact Nat.lt_irrefl _ (Nat.lt_of_lt_of_le (World.ownsRow.lt HLO.out g8 e).2 (Nat.le_trans hE8.size (Nat.le_of_eq h.symm)))
            have H8 := Lib.hid (And.intro hown8 (And.intro hb8 (And.intro ht8 (And.intro hl8 hn8))))
            have hy8 : w8.cell? ⟨wr.heap.size, 0, none⟩ = some (.int .i64 y) := (Touch.grown (M := fun q => (Value.slice fa k fc).ownBlock = some q) hg8 (fun q hq => hq)).cell (((Ext.refl _).alloc _).cell (cell_at wr.drew (.int .i64 y) 3 _ (by simp))) (fun e => by have h2 := (World.ownsRow.lt HFO.out _ e).2; simp only at h2; omega)
            have HY8 := Lib.hid hy8
            have hlt8 : bx < w8.heap.size := lt_of_heap hb8
            have hlg8 := (World.ownsRow.lt hown8 g8 rfl)
            clear hown8 hg8 hloc8 hb8 ht8 hl8 hn8 hy8
            refine hK.out _ _ ?_ ?_ (fun hS hT => ?_)
            · exact H8.out.2.2.1
            · exact fun _ => H8.out.2.1
            clear hK K' hT
            try simp only [Act.put, List.setIfInBounds_toArray, List.set_cons_zero, List.set_cons_succ]
            refine two_takeS (i := 19) (d := some 163) (v := ?_) (by kernel_rfl) (by rfl) (by kernel_rfl) (by kernel_rfl) (by kernel_rfl) (fun _ _ _ h => h) (fun o ho => ?_) hS ?_
            rotate_left
            · simp only [List.getElem?_toArray, List.getElem?_cons_zero, List.getElem?_cons_succ, Option.some.injEq] at ho
              subst ho
              refine ⟨by rfl, fun w' hSw => ?_⟩
              (try dsimp only at hSw)
              go_simp
              try with_reducible rfl
            try simp only [Act.put, List.setIfInBounds_toArray, List.set_cons_zero, List.set_cons_succ]
            refine two_ready (rs := [18]) (by kernel_rfl) (by simp) ?_
            refine two_step (i := 18) (by kernel_rfl) (fun o ho K' hK => ?_) ?_
            · simp only [List.getElem?_toArray, List.getElem?_cons_zero, List.getElem?_cons_succ, Option.some.injEq] at ho
              subst ho
              have hE18 : Ext w8 w8 := (Ext.refl w8)
              refine step_push_row E_ints (by rfl) _ _ (by rfl) W.heap.size (by rfl) (owns_ext H8.out.2.2.2.1 hE18) (by rfl) (HY8.out) rfl ?_ HSZ.out.1 HSZ.out.2 (Nat.le_trans H8.out.2.2.1.size hE18.size)
              intro g18 cap18 w18 hown18 hg18 hloc18
              have hb18 := (hg18.block bx (Nat.lt_of_lt_of_le hlt8 hE18.size) (fun e => by have := owns_block HLO.out _ e.symm; omega)).trans ((hE18.block hlt8).trans H8.out.2.1)
              have ht18 : Touch (· = bx) W w18 := Touch.of_new (N := fun k => k = bx ∨ W.heap.size ≤ k) (((H8.out.2.2.1.trans (Touch.of_ext hE18)).mono (fun k h => Or.inl h)).trans (Touch.grown hg18 (fun k hk => Or.inr (owns_block HLO.out k hk)))) (fun k h hk => h.elim id (fun h => by omega))
              have hf18 := (owns_ext H8.out.1 hE18).kept hg18 (.inr (fun e => H8.out.2.2.2.2 e.symm))
              have hn18 : g8 ≠ g18 := fun e => by
                rcases hloc18 with h | h
                · exact H8.out.2.2.2.2 (by rw [e]; exact h)
                · exact Nat.lt_irrefl _ (Nat.lt_of_lt_of_le hlg8.2 (Nat.le_trans hE18.size (Nat.le_of_eq (h.symm.trans e.symm))))
              have hlg18 := (World.ownsRow.lt hown18 g18 rfl).1
              have H18 := Lib.hid (And.intro hown18 (And.intro hb18 (And.intro ht18 (And.intro hf18 hn18))))
              obtain ⟨⟨q0, q1, q2⟩, r0, r1, r2⟩ := boxX_cells hb18
              clear hown18 hg18 hloc18 hb18 ht18 hf18 hn18
              refine hK.out _ _ ?_ ?_ (fun hS hT => ?_)
              · exact H18.out.2.2.1
              · exact fun _ => H18.out.2.1
              clear hK K' hT
              try simp only [Act.put, List.setIfInBounds_toArray, List.set_cons_zero, List.set_cons_succ]
              refine two_ready (rs := [20]) (by kernel_rfl) (by simp) ?_
              refine two_step (i := 20) (by kernel_rfl) (fun o ho K' hK => ?_) ?_
              · simp only [List.getElem?_toArray, List.getElem?_cons_zero, List.getElem?_cons_succ, Option.some.injEq] at ho
                subst ho
                go_simp
                refine hK.out _ _ ?_ ?_ (fun hS hT => ?_)
                · exact H18.out.2.2.1.trans (Touch.setCell (M := (· = bx)) (a := ⟨bx, 1, none⟩) _ rfl)
                · intro hc; cases hc
                clear hK K' hT
                try simp only [Act.put, List.setIfInBounds_toArray, List.set_cons_zero, List.set_cons_succ]
                refine two_takeS (i := 21) (d := some 164) (v := ?_) (by kernel_rfl) (by rfl) (by kernel_rfl) (by kernel_rfl) (by kernel_rfl) (fun _ _ _ h => h) (fun o ho => ?_) hS ?_
                rotate_left
                · simp only [List.getElem?_toArray, List.getElem?_cons_zero, List.getElem?_cons_succ, Option.some.injEq] at ho
                  subst ho
                  refine ⟨by rfl, fun w' hSw => ?_⟩
                  (try dsimp only at hSw)
                  go_simp
                  try with_reducible rfl
                try simp only [Act.put, List.setIfInBounds_toArray, List.set_cons_zero, List.set_cons_succ]
                refine two_ready (rs := [22]) (by kernel_rfl) (by simp) ?_
                refine two_step (i := 22) (by kernel_rfl) (fun o ho K' hK => ?_) ?_
                · simp only [List.getElem?_toArray, List.getElem?_cons_zero, List.getElem?_cons_succ, Option.some.injEq] at ho
                  subst ho
                  go_simp
                  refine hK.out _ _ ?_ ?_ (fun hS hT => ?_)
                  · exact (H18.out.2.2.1.trans (Touch.setCell (M := (· = bx)) (a := ⟨bx, 1, none⟩) _ rfl)).trans (Touch.setCell (M := (· = bx)) (a := ⟨bx, 2, none⟩) _ rfl)
                  · intro hc; cases hc
                  clear hK K' hT
                  try simp only [Act.put, List.setIfInBounds_toArray, List.set_cons_zero, List.set_cons_succ]
                  refine two_done (by kernel_rfl) ?_ _
                  refine NoPanic.normal ?_
                  try simp only [List.setIfInBounds_toArray, List.set_cons_zero, List.set_cons_succ]
                  have HWF := Lib.hid (And.intro (ownsRow_setCell_other (ownsRow_setCell_other H18.out.2.2.2.1 (a := ⟨bx, 1, none⟩) (by simp [Value.ownBlock]; omega) (.slice (some ⟨g8, 0, none⟩) (k + 1) cap8)) (a := ⟨bx, 2, none⟩) (by simp [Value.ownBlock]; omega) (.slice (some ⟨g18, 0, none⟩) (k + 1) cap18)) (And.intro (ownsRow_setCell_other (ownsRow_setCell_other H18.out.1 (a := ⟨bx, 1, none⟩) (by simp [Value.ownBlock]; omega) (.slice (some ⟨g8, 0, none⟩) (k + 1) cap8)) (a := ⟨bx, 2, none⟩) (by simp [Value.ownBlock]; omega) (.slice (some ⟨g18, 0, none⟩) (k + 1) cap18)) (And.intro (setCell_block (i := 2) (v := (.slice (some ⟨g18, 0, none⟩) (k + 1) cap18)) (setCell_block (i := 1) (v := (.slice (some ⟨g8, 0, none⟩) (k + 1) cap8)) H18.out.2.1)) hS)))
                  have d0 := hS.cell (HAT.out _ _ hx.out) (by simp only; omega)
                  have d1 := hS.cell (HAT.out _ _ hy.out) (by simp only; omega)
                  have d2 := hS.cell HPE.out (by simp only; omega)
                  have HNE : Hid (g8 ≠ g18) := H18.out.2.2.2.2
                  clear hS hT0 q0 q1 q2 r0 r1 r2
                  generalize ((w18.setCell ⟨bx, 1, none⟩ (.slice (some ⟨g8, 0, none⟩) (k + 1) cap8)).setCell ⟨bx, 2, none⟩ (.slice (some ⟨g18, 0, none⟩) (k + 1) cap18)) = WF at *
                  go_wp2
                  go_quiet (fail)
                  go_wp2
                  refine ⟨⟨k + 1, _, _, by omega, by go_num, by rw [HSU.out], by rw [HFS.out, List.map_append]; exact owns_ext HWF.out.1 ((Ext.refl _).drewN _), by rw [HLS.out, List.map_append]; exact owns_ext HWF.out.2.1 ((Ext.refl _).drewN _), HWF.out.2.2.1, HWF.out.2.2.2.trans (Touch.of_ext ((Ext.refl _).drewN _)), fun e => absurd (by simpa [Value.ownBlock] using e) HNE.out⟩, by simp [intOf] <;> omega⟩
                exact AllTwo.nil
              exact AllTwo.nil
            exact AllTwo.nil
          exact AllTwo.nil
        exact AllTwo.nil
      exact AllTwo.nil
    · have hke : k = r.houses.length := by omega
      subst hke
      have HF := Lib.hid (And.intro hbx.out (And.intro hfo (And.intro hlo ht)))
      clear hfo hlo hbx ht hap
      have x2 : decide ((r.houses.length : Int) < (r.houses.length : Int)) = false := by simp
      go_wp2
      exact HE.out _ _ _ _ _ _ _ _ _ _ _ _ _ _ _ _ _ _ _ _ _ _ _ _ _ _ _ _ _ _ _ _ _ _ _ _ _ _ _ _ _ _ _ _ _ _ fv lv wr HF.out.1 HF.out.2.1 HF.out.2.2.1 HF.out.2.2.2
end Go.Proofs.YtbeophjdiddomaaGreatDoor
