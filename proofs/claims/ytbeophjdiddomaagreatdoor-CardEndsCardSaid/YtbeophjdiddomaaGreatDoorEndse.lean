/- CardEnds: the loop over the houses' own ends. -/
import Derived.Test.YtbeophjdiddomaaGreatDoorEndsd
namespace Go.Proofs.YtbeophjdiddomaaGreatDoor
open Go.RowKit

theorem flat_set2 {l : List (Int × Int)} {k : Nat} {q : Int × Int} (h : k < l.length) : ((l.flatMap spanCells).set (k * 2) (.int .i64 q.1)).set (k * 2 + 1) (.int .i64 q.2) = (l.set k q).flatMap spanCells := by
  induction l generalizing k with
  | nil => simp at h
  | cons x l ih =>
    cases k with
    | zero => rfl
    | succ k =>
      have e := ih (k := k) (by simpa using h)
      rw [List.set_cons_succ, List.flatMap_cons, List.flatMap_cons, ← e]
      show ((Value.int .i64 x.1 :: Value.int .i64 x.2 :: l.flatMap spanCells).set ((k + 1) * 2) _).set ((k + 1) * 2 + 1) _ = _
      rw [show (k + 1) * 2 = k * 2 + 1 + 1 by omega]
      rfl

set_option maxRecDepth 1000000 in
set_option maxHeartbeats 64000000 in
theorem ends_l5 {Q0 : Exit → Act → World → Prop} (r : Round) (w W0 : World) (a : Option Addr) (c gs cs ga ca go bS : Nat) (h : EndsCtx r w W0 a c gs cs ga ca go bS) (a0 : List Int) (met : Bool) (own : List (Int × Int)) (B : Nat) (c0 c2 c3 c4 c5 c6 c8 c9 c10 c11 c12 c13 c14 c15 c16 c18 c19 c21 c22 c23 c24 c25 c26 c27 c29 c30 c31 c32 c33 c34 c35 c36 c37 c38 c39 c40 c41 c42 c43 c44 c45 c46 c47 c48 c49 c50 c51 c52 c53 c54 c55 c56 c57 c58 c59 c60 c61 c62 c63 c64 c65 c66 c67 c68 c69 c70 c71 c72 c73 c74 c75 c76 c77 c78 c79 c80 c81 c82 c83 c84 c85 c86 c87 c88 c89 c90 c91 c92 c93 c94 c95 c96 c97 c98 c99 c100 c101 c102 c103 c104 c105 c106 c107 c108 c109 c110 c111 c112 c113 c114 c115 c116 c117 c118 c119 c120 c121 c122 c123 c124 c125 c126 c127 c128 c129 c130 c131 c132 c133 c134 c135 c136 c137 c138 c139 c140 c141 c142 c143 c144 c145 c146 c147 c148 c149 c150 c151 c152 c153 c154 c155 c156 c157 c158 c159 c160 c161 c162 c163 c164 c165 c166 c167 c168 c169 c170 c171 c172 c173 c174 c175 c176 c177 c178 c179 c180 c181 c182 c183 c184 c185 c186 c187 c188 c189 c190 c191 c192 c193 c194 c195 c196 c197 c198 c199 c200 c201 c202 c203 c204 c205 c206 c207 c208 c209 c210 c211 c212 c213 c214 c215 c216 c217 c218 c219 c220 c221 c222 c223 c224 c225 c226 c227 c228 c229 c230 c231 c232 c233 c234 c235 c236 c237 c238 c239 c240 c241 c242 c243 c244 c245 c246 c247 c248 c249 c250 c251 c252 c253 c254 c255 c256 c257 c258 c259 c260 c261 c262 c263 c264 c265 c266 c267 c268 c269 c270 c271 c272 c273 c274 c275 c276 c277 c278 c279 c280 c281 c282 c283 c284 c285 c286 c287 c288 c289 c290 c291 c292 c293 c294 c295 c296 c297 c298 c299 c300 c301 c302 c303 c304 c305 c306 c307 c308 c309 c310 c311 c312 c313 c314 c315 c316 c317 c318 c319 c320 c321 c322 c323 c324 c325 c326 : Value) (W : World) (ha0 : InBox (spansE r) a0) (hl : own.length = r.houses.length) (hat : ∀ j y, a0[j]? = some y → W.cell? ⟨ga, j, none⟩ = some (.int .i64 y)) (how : W.ownsRow B 23 2 (.slice (some ⟨go, 0, none⟩) r.houses.length r.houses.length) r.houses.length (own.flatMap spanCells)) (hbr : W.heap[w.heap.size]? = some (.cells #[.int .i64 r.per, .int .i64 r.lo, .int .i64 r.hi, .int .i64 r.card, .int .i64 r.slack, .slice a r.houses.length c, .int .i64 r.all, .int .i64 r.off] 26 (0, 0))) (hexit : ∀ (y28 y204 y205 y206 y207 y208 y209 y210 y211 y212 y213 y214 y215 y216 y217 y218 y219 y220 y221 y222 y223 y224 y225 y226 y227 y228 y229 y230 y231 y232 y233 : Value) (W' : World), W'.ownsRow B 23 2 (.slice (some ⟨go, 0, none⟩) r.houses.length r.houses.length) r.houses.length ((ownUp r a0 met own r.houses.length).flatMap spanCells) → Touch (· = go) W W' → Q0 (.exit 10) ⟨#[c0, .pointer (some ⟨w.heap.size, 0, none⟩), c2, c3, c4, c5, c6, .slice (some ⟨ga, 0, none⟩) (2 * r.houses.length) ca, c8, c9, c10, c11, c12, c13, c14, c15, c16, .slice (some ⟨go, 0, none⟩) r.houses.length r.houses.length, c18, c19, .bool met, c21, c22, c23, c24, c25, c26, c27, y28, c29, c30, c31, c32, c33, c34, c35, c36, c37, c38, c39, c40, c41, c42, c43, c44, c45, c46, c47, c48, c49, c50, c51, c52, c53, c54, c55, c56, c57, c58, c59, c60, c61, c62, c63, c64, c65, c66, c67, c68, c69, c70, c71, c72, c73, c74, c75, c76, c77, c78, c79, c80, c81, c82, c83, c84, c85, c86, c87, c88, c89, c90, c91, c92, c93, c94, c95, c96, c97, c98, c99, c100, c101, c102, c103, c104, c105, c106, c107, c108, c109, c110, c111, c112, c113, c114, c115, c116, c117, c118, c119, c120, c121, c122, c123, c124, c125, c126, c127, c128, c129, c130, c131, c132, c133, c134, c135, c136, c137, c138, c139, c140, c141, c142, c143, c144, c145, c146, c147, c148, c149, c150, c151, c152, c153, c154, c155, c156, c157, c158, c159, c160, c161, c162, c163, c164, c165, c166, c167, c168, c169, c170, c171, c172, c173, c174, c175, c176, c177, c178, c179, c180, c181, c182, c183, c184, c185, c186, c187, c188, c189, c190, c191, c192, c193, c194, c195, c196, c197, c198, c199, c200, c201, c202, c203, y204, y205, y206, y207, y208, y209, y210, y211, y212, y213, y214, y215, y216, y217, y218, y219, y220, y221, y222, y223, y224, y225, y226, y227, y228, y229, y230, y231, y232, y233, c234, c235, c236, c237, c238, c239, c240, c241, c242, c243, c244, c245, c246, c247, c248, c249, c250, c251, c252, c253, c254, c255, c256, c257, c258, c259, c260, c261, c262, c263, c264, c265, c266, c267, c268, c269, c270, c271, c272, c273, c274, c275, c276, c277, c278, c279, c280, c281, c282, c283, c284, c285, c286, c287, c288, c289, c290, c291, c292, c293, c294, c295, c296, c297, c298, c299, c300, c301, c302, c303, c304, c305, c306, c307, c308, c309, c310, c311, c312, c313, c314, c315, c316, c317, c318, c319, c320, c321, c322, c323, c324, c325, c326], []⟩ W') : Code.wp Tryz.prog (Code.loop endsB5) Q0 ⟨#[c0, .pointer (some ⟨w.heap.size, 0, none⟩), c2, c3, c4, c5, c6, .slice (some ⟨ga, 0, none⟩) (2 * r.houses.length) ca, c8, c9, c10, c11, c12, c13, c14, c15, c16, .slice (some ⟨go, 0, none⟩) r.houses.length r.houses.length, c18, c19, .bool met, c21, c22, c23, c24, c25, c26, c27, .int .i64 0, c29, c30, c31, c32, c33, c34, c35, c36, c37, c38, c39, c40, c41, c42, c43, c44, c45, c46, c47, c48, c49, c50, c51, c52, c53, c54, c55, c56, c57, c58, c59, c60, c61, c62, c63, c64, c65, c66, c67, c68, c69, c70, c71, c72, c73, c74, c75, c76, c77, c78, c79, c80, c81, c82, c83, c84, c85, c86, c87, c88, c89, c90, c91, c92, c93, c94, c95, c96, c97, c98, c99, c100, c101, c102, c103, c104, c105, c106, c107, c108, c109, c110, c111, c112, c113, c114, c115, c116, c117, c118, c119, c120, c121, c122, c123, c124, c125, c126, c127, c128, c129, c130, c131, c132, c133, c134, c135, c136, c137, c138, c139, c140, c141, c142, c143, c144, c145, c146, c147, c148, c149, c150, c151, c152, c153, c154, c155, c156, c157, c158, c159, c160, c161, c162, c163, c164, c165, c166, c167, c168, c169, c170, c171, c172, c173, c174, c175, c176, c177, c178, c179, c180, c181, c182, c183, c184, c185, c186, c187, c188, c189, c190, c191, c192, c193, c194, c195, c196, c197, c198, c199, c200, c201, c202, c203, c204, c205, c206, c207, c208, c209, c210, c211, c212, c213, c214, c215, c216, c217, c218, c219, c220, c221, c222, c223, c224, c225, c226, c227, c228, c229, c230, c231, c232, c233, c234, c235, c236, c237, c238, c239, c240, c241, c242, c243, c244, c245, c246, c247, c248, c249, c250, c251, c252, c253, c254, c255, c256, c257, c258, c259, c260, c261, c262, c263, c264, c265, c266, c267, c268, c269, c270, c271, c272, c273, c274, c275, c276, c277, c278, c279, c280, c281, c282, c283, c284, c285, c286, c287, c288, c289, c290, c291, c292, c293, c294, c295, c296, c297, c298, c299, c300, c301, c302, c303, c304, c305, c306, c307, c308, c309, c310, c311, c312, c313, c314, c315, c316, c317, c318, c319, c320, c321, c322, c323, c324, c325, c326], []⟩ W := by
  obtain ⟨hB, hb, hra, hxw, -, hsp, o1, o2, o3, o4, o5⟩ := h
  have HE := Lib.hid hexit
  have HBX := Lib.hid ha0
  have HAT := Lib.hid hat
  have hn2 := hB.h2
  have hn1 := hB.h1
  have hp1 := hB.p1
  have hp2 := hB.p2
  have hlen : a0.length = 2 * r.houses.length := by rw [ha0.1, spansE_length]
  have HLN := Lib.hid hlen
  have HBB := Lib.hid hB
  have HL := Lib.hid hl
  have hpe := (round_cells hbr).1
  have HPE := Lib.hid hpe
  clear hexit hsp hra hxw hbr hb hat hl hpe
  have hmix : Tryz.prog.follows .mixedOrders = true := by kernel_rfl
  conv => arg 2; arg 1; whnf
  conv => arg 4; zeta
  go_loopw [28] (fun iv wr => ∃ k : Nat, k ≤ r.houses.length ∧ iv = .int .i64 (k : Int) ∧ wr.ownsRow B 23 2 (.slice (some ⟨go, 0, none⟩) r.houses.length r.houses.length) r.houses.length ((ownUp r a0 met own k).flatMap spanCells) ∧ Touch (· = go) W wr) (fun iv _ => r.houses.length - (intOf iv).toNat)
  case atStart => exact ⟨0, Nat.zero_le _, rfl, by rw [ownUp_zero]; exact how, Touch.refl _ _⟩
  case round =>
    clear how
    obtain ⟨k, hk, rfl, hown, ht⟩ := hrel
    by_cases hlt : k < r.houses.length
    · obtain ⟨x, hx⟩ : ∃ x, Hid (a0[2 * k]? = some x) := ⟨_, List.getElem?_eq_getElem (by omega)⟩
      obtain ⟨y, hy⟩ : ∃ y, Hid (a0[2 * k + 1]? = some y) := ⟨_, List.getElem?_eq_getElem (by omega)⟩
      have hgx : a0.getD (2 * k) 0 = x := by rw [List.getD_eq_getElem?_getD, hx.out]; rfl
      have hgy : a0.getD (2 * k + 1) 0 = y := by rw [List.getD_eq_getElem?_getD, hy.out]; rfl
      have hxb := HBX.out.2 (2 * k) (by rw [spansE_length]; omega)
      have hyb := HBX.out.2 (2 * k + 1) (by rw [spansE_length]; omega)
      rw [hgx] at hxb
      rw [hgy] at hyb
      have hxs : ∃ p, (spansE r)[2 * k]? = some p := ⟨_, List.getElem?_eq_getElem (by rw [spansE_length]; omega)⟩
      have hys : ∃ p, (spansE r)[2 * k + 1]? = some p := ⟨_, List.getElem?_eq_getElem (by rw [spansE_length]; omega)⟩
      obtain ⟨px, hpx⟩ := hxs
      obtain ⟨py, hpy⟩ := hys
      rw [List.getD_eq_getElem?_getD, hpx, Option.getD_some] at hxb
      rw [List.getD_eq_getElem?_getD, hpy, Option.getD_some] at hyb
      have mx := mem_spansE HBB.out (List.mem_of_getElem? hpx)
      have my := mem_spansE HBB.out (List.mem_of_getElem? hpy)
      have bx : 0 ≤ x ∧ x ≤ 60 := by omega
      have by' : 0 ≤ y ∧ y ≤ 60 := by omega
      have hxp0 : 0 ≤ x * r.per := Int.mul_nonneg bx.1 (by omega)
      have hxp : x * r.per ≤ 60 * 36 := Int.le_trans (Int.mul_le_mul_of_nonneg_right bx.2 (by omega)) (Int.mul_le_mul_of_nonneg_left hp2 (by omega))
      have HVE : Hid (valE r a0 k = x * r.per + y) := by unfold Hid valE nOf; rw [hgx, hgy, Int.mul_comm]
      have hkl : k < own.length := by rw [HL.out]; exact hlt
      obtain ⟨p1, p2, hp⟩ : ∃ p1 p2, Hid (own.getD k (0, 0) = (p1, p2)) := ⟨_, _, rfl⟩
      have hup : (ownUp r a0 met own k)[k]? = some (p1, p2) := by rw [ownUp_at hkl, if_neg (by omega), hp.out]
      have g0 : wr.drew.cell? ⟨go, k * 2, none⟩ = some (.int .i64 p1) := (hown.cellAt (k * 2) (by omega)).trans (flatMap_at spanCells 2 (fun _ => rfl) _ k 0 _ hup (by omega))
      have g1 : wr.drew.cell? ⟨go, k * 2 + 1, none⟩ = some (.int .i64 p2) := (hown.cellAt (k * 2 + 1) (by omega)).trans (flatMap_at spanCells 2 (fun _ => rfl) _ k 1 _ hup (by omega))
      have g2 : wr.drew.cell? ⟨ga, 2 * k, none⟩ = some (.int .i64 x) := ht.cell (HAT.out _ _ hx.out) (by simp only; omega)
      have g3 : wr.drew.cell? ⟨ga, 2 * k + 1, none⟩ = some (.int .i64 y) := ht.cell (HAT.out _ _ hy.out) (by simp only; omega)
      have g4 : wr.drew.cell? ⟨w.heap.size, 0, none⟩ = some (.int .i64 r.per) := ht.cell HPE.out (by simp only; omega)
      have HO := Lib.hid hown
      have HTT := Lib.hid ht
      have x2 : decide ((k : Int) < (r.houses.length : Int)) = true := by simpa using hlt
      have x3 : (k : Int) < (r.houses.length : Int) := by omega
      have x4 : 2 * (k : Int) < 2 * (r.houses.length : Int) := by omega
      have x5 : 2 * (k : Int) + 1 < 2 * (r.houses.length : Int) := by omega
      have x6 : (0 : Int) ≤ 2 * (k : Int) := by omega
      have x7 : (0 : Int) ≤ 2 * (k : Int) + 1 := by omega
      have x8 : (2 * (k : Int)).toNat = 2 * k := by omega
      have x9 : (2 * (k : Int) + 1).toNat = 2 * k + 1 := by omega
      have E1 : IntKind.i64.wrap (2 * (k : Int)) = 2 * (k : Int) := IntWalk.i64_in _ (by omega)
      have E2 : IntKind.i64.wrap (2 * (k : Int) + 1) = 2 * (k : Int) + 1 := IntWalk.i64_in _ (by omega)
      have E3 : IntKind.i64.wrap (x * r.per) = x * r.per := IntWalk.i64_in _ (by omega)
      have E4 : IntKind.i64.wrap (x * r.per + y) = x * r.per + y := IntWalk.i64_in _ (by omega)
      clear hown ht hgx hgy hxb hyb hpx hpy mx my hup
      go_upto_region 44 with fail
      refine wp_region_noPanic ?_
      refine wp_region_any (by kernel_rfl) (wpAny_of_till (z := 24) (S := (fun w' => w'.cell? ⟨go, k * 2, none⟩ = some (.int .i64 p1) ∧ w'.cell? ⟨go, k * 2 + 1, none⟩ = some (.int .i64 p2) ∧ w'.cell? ⟨ga, 2 * k, none⟩ = some (.int .i64 x) ∧ w'.cell? ⟨ga, 2 * k + 1, none⟩ = some (.int .i64 y) ∧ w'.cell? ⟨w.heap.size, 0, none⟩ = some (.int .i64 r.per))) _ _ _ _ ?_)
      change wpTill _ _ _ _ _ _ _ _ _ wr.drew
      have hS0 := (show wr.drew.cell? ⟨go, k * 2, none⟩ = some (.int .i64 p1) ∧ wr.drew.cell? ⟨go, k * 2 + 1, none⟩ = some (.int .i64 p2) ∧ wr.drew.cell? ⟨ga, 2 * k, none⟩ = some (.int .i64 x) ∧ wr.drew.cell? ⟨ga, 2 * k + 1, none⟩ = some (.int .i64 y) ∧ wr.drew.cell? ⟨w.heap.size, 0, none⟩ = some (.int .i64 r.per) from ⟨g0, g1, g2, g3, g4⟩)
      refine till_at (i := 0) (d := some 210) (v := ?_) (by kernel_rfl) (by kernel_rfl) (by kernel_rfl) (by kernel_rfl) (by kernel_rfl) (fun _ _ _ h => h) (fun o ho => ?_) hS0 ?_
      rotate_left
      · simp only [List.getElem?_toArray, List.getElem?_cons_zero, Option.some.injEq] at ho
        subst ho
        refine Or.inl ⟨by rfl, fun w' hSw => ?_⟩
        obtain ⟨hSw0, hSw1, hSw2, hSw3, hSw4⟩ := hSw
        go_simp
        try with_reducible rfl
      try simp only [Act.put, List.setIfInBounds_toArray, List.set_cons_zero, List.set_cons_succ]
      refine till_at (i := 1) (d := some 211) (v := ?_) (by kernel_rfl) (by kernel_rfl) (by kernel_rfl) (by kernel_rfl) (by kernel_rfl) (fun _ _ _ h => h) (fun o ho => ?_) hS0 ?_
      rotate_left
      · simp only [List.getElem?_toArray, List.getElem?_cons_zero, List.getElem?_cons_succ, Option.some.injEq] at ho
        subst ho
        refine Or.inl ⟨by rfl, fun w' hSw => ?_⟩
        obtain ⟨hSw0, hSw1, hSw2, hSw3, hSw4⟩ := hSw
        go_simp
        try with_reducible rfl
      try simp only [Act.put, List.setIfInBounds_toArray, List.set_cons_zero, List.set_cons_succ]
      refine till_at (i := 2) (d := some 212) (v := ?_) (by kernel_rfl) (by kernel_rfl) (by kernel_rfl) (by kernel_rfl) (by kernel_rfl) (fun _ _ _ h => h) (fun o ho => ?_) hS0 ?_
      rotate_left
      · simp only [List.getElem?_toArray, List.getElem?_cons_zero, List.getElem?_cons_succ, Option.some.injEq] at ho
        subst ho
        refine Or.inl ⟨by rfl, fun w' hSw => ?_⟩
        obtain ⟨hSw0, hSw1, hSw2, hSw3, hSw4⟩ := hSw
        go_simp
        try with_reducible rfl
      try simp only [Act.put, List.setIfInBounds_toArray, List.set_cons_zero, List.set_cons_succ]
      refine till_at (i := 3) (d := some 213) (v := ?_) (by kernel_rfl) (by kernel_rfl) (by kernel_rfl) (by kernel_rfl) (by kernel_rfl) (fun _ _ _ h => h) (fun o ho => ?_) hS0 ?_
      rotate_left
      · simp only [List.getElem?_toArray, List.getElem?_cons_zero, List.getElem?_cons_succ, Option.some.injEq] at ho
        subst ho
        refine Or.inl ⟨by rfl, fun w' hSw => ?_⟩
        obtain ⟨hSw0, hSw1, hSw2, hSw3, hSw4⟩ := hSw
        go_simp
        try with_reducible rfl
      try simp only [Act.put, List.setIfInBounds_toArray, List.set_cons_zero, List.set_cons_succ]
      refine till_at (i := 4) (d := some 214) (v := ?_) (by kernel_rfl) (by kernel_rfl) (by kernel_rfl) (by kernel_rfl) (by kernel_rfl) (fun _ _ _ h => h) (fun o ho => ?_) hS0 ?_
      rotate_left
      · simp only [List.getElem?_toArray, List.getElem?_cons_zero, List.getElem?_cons_succ, Option.some.injEq] at ho
        subst ho
        refine Or.inl ⟨by rfl, fun w' hSw => ?_⟩
        obtain ⟨hSw0, hSw1, hSw2, hSw3, hSw4⟩ := hSw
        go_simp
        try with_reducible rfl
      try simp only [Act.put, List.setIfInBounds_toArray, List.set_cons_zero, List.set_cons_succ]
      refine till_at (i := 5) (d := some 215) (v := ?_) (by kernel_rfl) (by kernel_rfl) (by kernel_rfl) (by kernel_rfl) (by kernel_rfl) (fun _ _ _ h => h) (fun o ho => ?_) hS0 ?_
      rotate_left
      · simp only [List.getElem?_toArray, List.getElem?_cons_zero, List.getElem?_cons_succ, Option.some.injEq] at ho
        subst ho
        refine Or.inl ⟨by rfl, fun w' hSw => ?_⟩
        obtain ⟨hSw0, hSw1, hSw2, hSw3, hSw4⟩ := hSw
        go_simp
        try with_reducible rfl
      try simp only [Act.put, List.setIfInBounds_toArray, List.set_cons_zero, List.set_cons_succ]
      refine till_at (i := 6) (d := some 216) (v := ?_) (by kernel_rfl) (by kernel_rfl) (by kernel_rfl) (by kernel_rfl) (by kernel_rfl) (fun _ _ _ h => h) (fun o ho => ?_) hS0 ?_
      rotate_left
      · simp only [List.getElem?_toArray, List.getElem?_cons_zero, List.getElem?_cons_succ, Option.some.injEq] at ho
        subst ho
        refine Or.inl ⟨by rfl, fun w' hSw => ?_⟩
        obtain ⟨hSw0, hSw1, hSw2, hSw3, hSw4⟩ := hSw
        go_simp
        try with_reducible rfl
      try simp only [Act.put, List.setIfInBounds_toArray, List.set_cons_zero, List.set_cons_succ]
      refine till_at (i := 7) (d := some 217) (v := ?_) (by kernel_rfl) (by kernel_rfl) (by kernel_rfl) (by kernel_rfl) (by kernel_rfl) (fun _ _ _ h => h) (fun o ho => ?_) hS0 ?_
      rotate_left
      · simp only [List.getElem?_toArray, List.getElem?_cons_zero, List.getElem?_cons_succ, Option.some.injEq] at ho
        subst ho
        refine Or.inl ⟨by rfl, fun w' hSw => ?_⟩
        obtain ⟨hSw0, hSw1, hSw2, hSw3, hSw4⟩ := hSw
        go_simp
        try with_reducible rfl
      try simp only [Act.put, List.setIfInBounds_toArray, List.set_cons_zero, List.set_cons_succ]
      refine till_at (i := 8) (d := some 218) (v := ?_) (by kernel_rfl) (by kernel_rfl) (by kernel_rfl) (by kernel_rfl) (by kernel_rfl) (fun _ _ _ h => h) (fun o ho => ?_) hS0 ?_
      rotate_left
      · simp only [List.getElem?_toArray, List.getElem?_cons_zero, List.getElem?_cons_succ, Option.some.injEq] at ho
        subst ho
        refine Or.inl ⟨by rfl, fun w' hSw => ?_⟩
        obtain ⟨hSw0, hSw1, hSw2, hSw3, hSw4⟩ := hSw
        go_simp
        try with_reducible rfl
      try simp only [Act.put, List.setIfInBounds_toArray, List.set_cons_zero, List.set_cons_succ]
      refine till_at (i := 9) (d := some 219) (v := ?_) (by kernel_rfl) (by kernel_rfl) (by kernel_rfl) (by kernel_rfl) (by kernel_rfl) (fun _ _ _ h => h) (fun o ho => ?_) hS0 ?_
      rotate_left
      · simp only [List.getElem?_toArray, List.getElem?_cons_zero, List.getElem?_cons_succ, Option.some.injEq] at ho
        subst ho
        refine Or.inl ⟨by rfl, fun w' hSw => ?_⟩
        obtain ⟨hSw0, hSw1, hSw2, hSw3, hSw4⟩ := hSw
        go_simp
        try with_reducible rfl
      try simp only [Act.put, List.setIfInBounds_toArray, List.set_cons_zero, List.set_cons_succ]
      refine till_at (i := 10) (d := some 220) (v := ?_) (by kernel_rfl) (by kernel_rfl) (by kernel_rfl) (by kernel_rfl) (by kernel_rfl) (fun _ _ _ h => h) (fun o ho => ?_) hS0 ?_
      rotate_left
      · simp only [List.getElem?_toArray, List.getElem?_cons_zero, List.getElem?_cons_succ, Option.some.injEq] at ho
        subst ho
        refine Or.inl ⟨by rfl, fun w' hSw => ?_⟩
        obtain ⟨hSw0, hSw1, hSw2, hSw3, hSw4⟩ := hSw
        go_simp
        try with_reducible rfl
      try simp only [Act.put, List.setIfInBounds_toArray, List.set_cons_zero, List.set_cons_succ]
      refine till_at (i := 11) (d := some 221) (v := ?_) (by kernel_rfl) (by kernel_rfl) (by kernel_rfl) (by kernel_rfl) (by kernel_rfl) (fun _ _ _ h => h) (fun o ho => ?_) hS0 ?_
      rotate_left
      · simp only [List.getElem?_toArray, List.getElem?_cons_zero, List.getElem?_cons_succ, Option.some.injEq] at ho
        subst ho
        refine Or.inl ⟨by rfl, fun w' hSw => ?_⟩
        obtain ⟨hSw0, hSw1, hSw2, hSw3, hSw4⟩ := hSw
        go_simp
        try with_reducible rfl
      try simp only [Act.put, List.setIfInBounds_toArray, List.set_cons_zero, List.set_cons_succ]
      refine till_at (i := 12) (d := some 222) (v := ?_) (by kernel_rfl) (by kernel_rfl) (by kernel_rfl) (by kernel_rfl) (by kernel_rfl) (fun _ _ _ h => h) (fun o ho => ?_) hS0 ?_
      rotate_left
      · simp only [List.getElem?_toArray, List.getElem?_cons_zero, List.getElem?_cons_succ, Option.some.injEq] at ho
        subst ho
        refine Or.inl ⟨by rfl, fun w' hSw => ?_⟩
        obtain ⟨hSw0, hSw1, hSw2, hSw3, hSw4⟩ := hSw
        go_simp
        try with_reducible rfl
      try simp only [Act.put, List.setIfInBounds_toArray, List.set_cons_zero, List.set_cons_succ]
      refine till_at (i := 13) (d := some 223) (v := ?_) (by kernel_rfl) (by kernel_rfl) (by kernel_rfl) (by kernel_rfl) (by kernel_rfl) (fun _ _ _ h => h) (fun o ho => ?_) hS0 ?_
      rotate_left
      · simp only [List.getElem?_toArray, List.getElem?_cons_zero, List.getElem?_cons_succ, Option.some.injEq] at ho
        subst ho
        refine Or.inl ⟨by rfl, fun w' hSw => ?_⟩
        obtain ⟨hSw0, hSw1, hSw2, hSw3, hSw4⟩ := hSw
        go_simp
        try with_reducible rfl
      try simp only [Act.put, List.setIfInBounds_toArray, List.set_cons_zero, List.set_cons_succ]
      refine till_at (i := 14) (d := some 224) (v := ?_) (by kernel_rfl) (by kernel_rfl) (by kernel_rfl) (by kernel_rfl) (by kernel_rfl) (fun _ _ _ h => h) (fun o ho => ?_) hS0 ?_
      rotate_left
      · simp only [List.getElem?_toArray, List.getElem?_cons_zero, List.getElem?_cons_succ, Option.some.injEq] at ho
        subst ho
        refine Or.inl ⟨by rfl, fun w' hSw => ?_⟩
        obtain ⟨hSw0, hSw1, hSw2, hSw3, hSw4⟩ := hSw
        go_simp
        try with_reducible rfl
      try simp only [Act.put, List.setIfInBounds_toArray, List.set_cons_zero, List.set_cons_succ]
      refine till_at (i := 15) (d := some 225) (v := ?_) (by kernel_rfl) (by kernel_rfl) (by kernel_rfl) (by kernel_rfl) (by kernel_rfl) (fun _ _ _ h => h) (fun o ho => ?_) hS0 ?_
      rotate_left
      · simp only [List.getElem?_toArray, List.getElem?_cons_zero, List.getElem?_cons_succ, Option.some.injEq] at ho
        subst ho
        refine Or.inl ⟨by rfl, fun w' hSw => ?_⟩
        obtain ⟨hSw0, hSw1, hSw2, hSw3, hSw4⟩ := hSw
        go_simp
        try with_reducible rfl
      try simp only [Act.put, List.setIfInBounds_toArray, List.set_cons_zero, List.set_cons_succ]
      refine till_at (i := 16) (d := some 226) (v := ?_) (by kernel_rfl) (by kernel_rfl) (by kernel_rfl) (by kernel_rfl) (by kernel_rfl) (fun _ _ _ h => h) (fun o ho => ?_) hS0 ?_
      rotate_left
      · simp only [List.getElem?_toArray, List.getElem?_cons_zero, List.getElem?_cons_succ, Option.some.injEq] at ho
        subst ho
        refine Or.inl ⟨by rfl, fun w' hSw => ?_⟩
        obtain ⟨hSw0, hSw1, hSw2, hSw3, hSw4⟩ := hSw
        go_simp
        try with_reducible rfl
      try simp only [Act.put, List.setIfInBounds_toArray, List.set_cons_zero, List.set_cons_succ]
      refine till_at (i := 17) (d := some 227) (v := ?_) (by kernel_rfl) (by kernel_rfl) (by kernel_rfl) (by kernel_rfl) (by kernel_rfl) (fun _ _ _ h => h) (fun o ho => ?_) hS0 ?_
      rotate_left
      · simp only [List.getElem?_toArray, List.getElem?_cons_zero, List.getElem?_cons_succ, Option.some.injEq] at ho
        subst ho
        refine Or.inl ⟨by rfl, fun w' hSw => ?_⟩
        obtain ⟨hSw0, hSw1, hSw2, hSw3, hSw4⟩ := hSw
        go_simp
        try with_reducible rfl
      try simp only [Act.put, List.setIfInBounds_toArray, List.set_cons_zero, List.set_cons_succ]
      refine till_at (i := 18) (d := some 228) (v := ?_) (by kernel_rfl) (by kernel_rfl) (by kernel_rfl) (by kernel_rfl) (by kernel_rfl) (fun _ _ _ h => h) (fun o ho => ?_) hS0 ?_
      rotate_left
      · simp only [List.getElem?_toArray, List.getElem?_cons_zero, List.getElem?_cons_succ, Option.some.injEq] at ho
        subst ho
        refine Or.inl ⟨by rfl, fun w' hSw => ?_⟩
        obtain ⟨hSw0, hSw1, hSw2, hSw3, hSw4⟩ := hSw
        go_simp
        try with_reducible rfl
      try simp only [Act.put, List.setIfInBounds_toArray, List.set_cons_zero, List.set_cons_succ]
      refine till_at (i := 19) (d := some 229) (v := ?_) (by kernel_rfl) (by kernel_rfl) (by kernel_rfl) (by kernel_rfl) (by kernel_rfl) (fun _ _ _ h => h) (fun o ho => ?_) hS0 ?_
      rotate_left
      · simp only [List.getElem?_toArray, List.getElem?_cons_zero, List.getElem?_cons_succ, Option.some.injEq] at ho
        subst ho
        refine Or.inl ⟨by rfl, fun w' hSw => ?_⟩
        obtain ⟨hSw0, hSw1, hSw2, hSw3, hSw4⟩ := hSw
        go_simp
        try with_reducible rfl
      try simp only [Act.put, List.setIfInBounds_toArray, List.set_cons_zero, List.set_cons_succ]
      refine till_at (i := 20) (d := some 230) (v := ?_) (by kernel_rfl) (by kernel_rfl) (by kernel_rfl) (by kernel_rfl) (by kernel_rfl) (fun _ _ _ h => h) (fun o ho => ?_) hS0 ?_
      rotate_left
      · simp only [List.getElem?_toArray, List.getElem?_cons_zero, List.getElem?_cons_succ, Option.some.injEq] at ho
        subst ho
        refine Or.inl ⟨by rfl, fun w' hSw => ?_⟩
        obtain ⟨hSw0, hSw1, hSw2, hSw3, hSw4⟩ := hSw
        go_simp
        try with_reducible rfl
      try simp only [Act.put, List.setIfInBounds_toArray, List.set_cons_zero, List.set_cons_succ]
      refine till_at (i := 21) (d := some 231) (v := ?_) (by kernel_rfl) (by kernel_rfl) (by kernel_rfl) (by kernel_rfl) (by kernel_rfl) (fun _ _ _ h => h) (fun o ho => ?_) hS0 ?_
      rotate_left
      · simp only [List.getElem?_toArray, List.getElem?_cons_zero, List.getElem?_cons_succ, Option.some.injEq] at ho
        subst ho
        refine Or.inl ⟨by rfl, fun w' hSw => ?_⟩
        obtain ⟨hSw0, hSw1, hSw2, hSw3, hSw4⟩ := hSw
        go_simp
        try with_reducible rfl
      try simp only [Act.put, List.setIfInBounds_toArray, List.set_cons_zero, List.set_cons_succ]
      refine till_step (i := 22) (by kernel_rfl) (by kernel_rfl) (fun o ho K' hK => ?_)
      simp only [List.getElem?_toArray, List.getElem?_cons_zero, List.getElem?_cons_succ, Option.some.injEq] at ho
      subst ho
      go_simp
      go_at_call 16
      refine (ewider_any (p1, p2) _ met _).mono ?_
      rintro e w5 ⟨rfl, hx5⟩
      have HO5 := Lib.hid (owns_ext HO.out ((Ext.refl wr).drew.trans hx5))
      have f0 := HO5.out.frozenAt (k * 2)
      have f1 := HO5.out.frozenAt (k * 2 + 1)
      have HX5 := Lib.hid ((Ext.refl wr).drew.trans hx5)
      have hS22 := (show w5.cell? ⟨go, k * 2, none⟩ = some (.int .i64 p1) ∧ w5.cell? ⟨go, k * 2 + 1, none⟩ = some (.int .i64 p2) ∧ w5.cell? ⟨ga, 2 * k, none⟩ = some (.int .i64 x) ∧ w5.cell? ⟨ga, 2 * k + 1, none⟩ = some (.int .i64 y) ∧ w5.cell? ⟨w.heap.size, 0, none⟩ = some (.int .i64 r.per) from ⟨hx5.cell g0, hx5.cell g1, hx5.cell g2, hx5.cell g3, hx5.cell g4⟩)
      refine hK.out _ _ (fun _ => hS22) (fun _ => ?_)
      clear hK K'
      try simp only [Act.put, List.setIfInBounds_toArray, List.set_cons_zero, List.set_cons_succ]
      refine till_at (i := 23) (d := some 233) (v := ?_) (by kernel_rfl) (by kernel_rfl) (by kernel_rfl) (by kernel_rfl) (by kernel_rfl) (fun _ _ _ h => h) (fun o ho => ?_) hS22 ?_
      rotate_left
      · simp only [List.getElem?_toArray, List.getElem?_cons_zero, List.getElem?_cons_succ, Option.some.injEq] at ho
        subst ho
        refine Or.inl ⟨by rfl, fun w' hSw => ?_⟩
        obtain ⟨hSw0, hSw1, hSw2, hSw3, hSw4⟩ := hSw
        go_simp
        try with_reducible rfl
      try simp only [Act.put, List.setIfInBounds_toArray, List.set_cons_zero, List.set_cons_succ]
      refine till_step (i := 24) (by kernel_rfl) (by kernel_rfl) (fun o ho K' hK => ?_)
      simp only [List.getElem?_toArray, List.getElem?_cons_zero, List.getElem?_cons_succ, Option.some.injEq] at ho
      subst ho
      go_simp
      refine hK.out _ _ (fun h => absurd rfl h) (fun _ => ?_)
      clear hK K'
      try simp only [Act.put, List.setIfInBounds_toArray, List.set_cons_zero, List.set_cons_succ]
      refine till_done (by kernel_rfl) ?_ _
      refine NoPanic.normal ?_
      try simp only [Act.put, List.setIfInBounds_toArray, List.set_cons_zero, List.set_cons_succ]
      have h9 := ((HO5.out.stored (k * 2) (.int .i64 (widerP (p1, p2) (x * r.per + y) met).1)).1.stored (k * 2 + 1) (.int .i64 (widerP (p1, p2) (x * r.per + y) met).2)).1
      rw [flat_set2 (by rw [ownUp_length]; exact hkl)] at h9
      have h8 := ownUp_set (r := r) (a := a0) (met := met) hkl
      rw [hp.out, HVE.out] at h8
      rw [h8] at h9
      have HFF := Lib.hid (And.intro h9 (((HTT.out.trans (Touch.of_ext HX5.out)).trans (Touch.setCell (M := (· = go)) (a := ⟨go, k * 2, none⟩) (.int .i64 (widerP (p1, p2) (x * r.per + y) met).1) rfl)).trans (Touch.setCell (M := (· = go)) (a := ⟨go, k * 2 + 1, none⟩) (.int .i64 (widerP (p1, p2) (x * r.per + y) met).2) rfl)))
      clear h9 h8 hS0 hS22 f0 f1
      go_wp2
      exact ⟨⟨k + 1, by omega, by go_num, HFF.out.1, HFF.out.2⟩, by simp [intOf] <;> omega⟩
    · have hke : k = r.houses.length := by omega
      subst hke
      have HF := Lib.hid (And.intro hown ht)
      clear hown ht
      have x2 : decide ((r.houses.length : Int) < (r.houses.length : Int)) = false := by simp
      go_wp2
      exact HE.out _ _ _ _ _ _ _ _ _ _ _ _ _ _ _ _ _ _ _ _ _ _ _ _ _ _ _ _ _ _ _ wr HF.out.1 HF.out.2
end Go.Proofs.YtbeophjdiddomaaGreatDoor
