/- CardEnds: the odometer. -/
import Derived.Test.YtbeophjdiddomaaGreatDoorEndsc
namespace Go.Proofs.YtbeophjdiddomaaGreatDoor
open Go.RowKit

noncomputable def endsB2 : Code := ((((Tryz.f3.body.bind afterLoop).bind afterLoop).bind loopIn).getD .skip)
noncomputable def endsB3 : Code := ((loopIn endsB2).getD .skip)
noncomputable def endsB4 : Code := (((afterLoop endsB2).bind loopIn).getD .skip)
noncomputable def endsB5 : Code := ((loopIn endsB4).getD .skip)
noncomputable def endsB6 : Code := ((((afterLoop endsB2).bind afterLoop).bind loopIn).getD .skip)
/-- What is known at the great loop. -/
structure EndsCtx (r : Round) (w W0 : World) (a : Option Addr) (c gs cs ga ca go bS : Nat) : Prop where
  hB : RoundB r
  hb : isRoundB r = true
  hra : RoundAt w (.agg #[.int .i64 r.per, .int .i64 r.lo, .int .i64 r.hi, .int .i64 r.card, .int .i64 r.slack, .slice a r.houses.length c, .int .i64 r.all, .int .i64 r.off]) r
  hx : Ext w W0
  hbr : W0.heap[w.heap.size]? = some (.cells #[.int .i64 r.per, .int .i64 r.lo, .int .i64 r.hi, .int .i64 r.card, .int .i64 r.slack, .slice a r.houses.length c, .int .i64 r.all, .int .i64 r.off] 26 (0, 0))
  hsp : ∀ i p, (spansE r)[i]? = some p → W0.cell? ⟨gs, i * 2, none⟩ = some (.int .i64 p.1) ∧ W0.cell? ⟨gs, i * 2 + 1, none⟩ = some (.int .i64 p.2)
  o1 : w.heap.size < gs
  o2 : gs < ga
  o3 : ga < go
  o4 : go < bS
  o5 : bS + 1 < W0.heap.size
/-- The blocks that the great loop turns. -/
def EndsM (ga go bS : Nat) (k : Nat) : Prop := k = ga ∨ k = go ∨ k = bS ∨ k = bS + 1
theorem set_mid {α : Type} {a d : List α} {k : Nat} (h : k < a.length) (x : α) : (a.take (k + 1) ++ d).set k x = a.take k ++ x :: d := by
  rw [List.take_add_one, List.getElem?_eq_getElem h, Option.toList_some, List.append_assoc, List.set_append_right _ _ (by rw [List.length_take]; omega)]
  rw [List.length_take, Nat.min_eq_left (by omega), Nat.sub_self]
  rfl
/-- Where the odometer stands: so many places are still to be looked at. -/
def Odo (S : List (Int × Int)) (a0 : List Int) (n k : Nat) (more : Bool) (b : List Int) : Prop :=
  (more = false → k ≤ n ∧ b = a0.take k ++ (lowsE S).drop k ∧ ∀ j, k ≤ j → j < n → (S.getD j (0, 0)).2 ≤ a0.getD j 0) ∧
  (more = true → k < n ∧ b = nextAtE S a0 k ∧ a0.getD k 0 < (S.getD k (0, 0)).2 ∧ ∀ j, k < j → j < n → (S.getD j (0, 0)).2 ≤ a0.getD j 0)
set_option maxRecDepth 1000000 in
set_option maxHeartbeats 64000000 in
theorem ends_l6 {Q0 : Exit → Act → World → Prop} (r : Round) (w W0 : World) (a : Option Addr) (c gs cs ga ca go bS : Nat) (h : EndsCtx r w W0 a c gs cs ga ca go bS) (a0 : List Int) (B : Nat) (c0 c1 c2 c3 c5 c6 c8 c9 c10 c11 c12 c13 c14 c15 c16 c17 c18 c19 c20 c22 c23 c24 c25 c26 c27 c28 c30 c31 c32 c33 c34 c35 c36 c37 c38 c39 c40 c41 c42 c43 c44 c45 c46 c47 c48 c49 c50 c51 c52 c53 c54 c55 c56 c57 c58 c59 c60 c61 c62 c63 c64 c65 c66 c67 c68 c69 c70 c71 c72 c73 c74 c75 c76 c77 c78 c79 c80 c81 c82 c83 c84 c85 c86 c87 c88 c89 c90 c91 c92 c93 c94 c95 c96 c97 c98 c99 c100 c101 c102 c103 c104 c105 c106 c107 c108 c109 c110 c111 c112 c113 c114 c115 c116 c117 c118 c119 c120 c121 c122 c123 c124 c125 c126 c127 c128 c129 c130 c131 c132 c133 c134 c135 c136 c137 c138 c139 c140 c141 c142 c143 c144 c145 c146 c147 c148 c149 c150 c151 c152 c153 c154 c155 c156 c157 c158 c159 c160 c161 c162 c163 c164 c165 c166 c167 c168 c169 c170 c171 c172 c173 c174 c175 c176 c177 c178 c179 c180 c181 c182 c183 c184 c185 c186 c187 c188 c189 c190 c191 c192 c193 c194 c195 c196 c197 c198 c199 c200 c201 c202 c203 c204 c205 c206 c207 c208 c209 c210 c211 c212 c213 c214 c215 c216 c217 c218 c219 c220 c221 c222 c223 c224 c225 c226 c227 c228 c229 c230 c231 c232 c233 c234 c235 c236 c237 c238 c239 c240 c241 c242 c243 c244 c245 c246 c247 c248 c249 c250 c251 c252 c253 c254 c255 c256 c257 c258 c259 c260 c261 c262 c263 c264 c265 c266 c267 c268 c269 c270 c271 c272 c273 c274 c275 c276 c277 c278 c279 c280 c281 c282 c283 c284 c285 c286 c287 c288 c289 c290 c291 c292 c293 c294 c295 c296 c297 c298 c299 c300 c301 c302 c303 c304 c305 c306 c307 c308 c309 c310 c311 c312 c313 c314 c315 c316 c317 c318 c319 c320 c321 c322 c323 c324 c325 c326 : Value) (W : World) (ha0 : InBox (spansE r) a0) (hat : W.ownsRow B 3 1 (.slice (some ⟨ga, 0, none⟩) (2 * r.houses.length) ca) (2 * r.houses.length) (a0.map (.int .i64))) (hT : Touch (EndsM ga go bS) W0 W) (hexit : ∀ (y29 y245 y246 y247 y248 y249 y250 y251 y252 y253 y254 y255 y256 y257 y258 y259 y260 y261 y262 y263 y264 y265 y266 y267 y268 y269 y270 y271 y272 y273 y274 y275 y276 : Value) (k : Nat) (more : Bool) (b : List Int) (W' : World), Odo (spansE r) a0 (2 * r.houses.length) k more b → (k = 0 ∨ more = true) → W'.ownsRow B 3 1 (.slice (some ⟨ga, 0, none⟩) (2 * r.houses.length) ca) (2 * r.houses.length) (b.map (.int .i64)) → Touch (· = ga) W W' → Q0 (.exit 12) ⟨#[c0, c1, c2, c3, .slice (some ⟨gs, 0, none⟩) (2 * r.houses.length) cs, c5, c6, .slice (some ⟨ga, 0, none⟩) (2 * r.houses.length) ca, c8, c9, c10, c11, c12, c13, c14, c15, c16, c17, c18, c19, c20, .bool more, c22, c23, c24, c25, c26, c27, c28, y29, c30, c31, c32, c33, c34, c35, c36, c37, c38, c39, c40, c41, c42, c43, c44, c45, c46, c47, c48, c49, c50, c51, c52, c53, c54, c55, c56, c57, c58, c59, c60, c61, c62, c63, c64, c65, c66, c67, c68, c69, c70, c71, c72, c73, c74, c75, c76, c77, c78, c79, c80, c81, c82, c83, c84, c85, c86, c87, c88, c89, c90, c91, c92, c93, c94, c95, c96, c97, c98, c99, c100, c101, c102, c103, c104, c105, c106, c107, c108, c109, c110, c111, c112, c113, c114, c115, c116, c117, c118, c119, c120, c121, c122, c123, c124, c125, c126, c127, c128, c129, c130, c131, c132, c133, c134, c135, c136, c137, c138, c139, c140, c141, c142, c143, c144, c145, c146, c147, c148, c149, c150, c151, c152, c153, c154, c155, c156, c157, c158, c159, c160, c161, c162, c163, c164, c165, c166, c167, c168, c169, c170, c171, c172, c173, c174, c175, c176, c177, c178, c179, c180, c181, c182, c183, c184, c185, c186, c187, c188, c189, c190, c191, c192, c193, c194, c195, c196, c197, c198, c199, c200, c201, c202, c203, c204, c205, c206, c207, c208, c209, c210, c211, c212, c213, c214, c215, c216, c217, c218, c219, c220, c221, c222, c223, c224, c225, c226, c227, c228, c229, c230, c231, c232, c233, c234, c235, c236, c237, c238, c239, c240, c241, c242, c243, c244, y245, y246, y247, y248, y249, y250, y251, y252, y253, y254, y255, y256, y257, y258, y259, y260, y261, y262, y263, y264, y265, y266, y267, y268, y269, y270, y271, y272, y273, y274, y275, y276, c277, c278, c279, c280, c281, c282, c283, c284, c285, c286, c287, c288, c289, c290, c291, c292, c293, c294, c295, c296, c297, c298, c299, c300, c301, c302, c303, c304, c305, c306, c307, c308, c309, c310, c311, c312, c313, c314, c315, c316, c317, c318, c319, c320, c321, c322, c323, c324, c325, c326], []⟩ W') : Code.wp Tryz.prog (Code.loop endsB6) Q0 ⟨#[c0, c1, c2, c3, .slice (some ⟨gs, 0, none⟩) (2 * r.houses.length) cs, c5, c6, .slice (some ⟨ga, 0, none⟩) (2 * r.houses.length) ca, c8, c9, c10, c11, c12, c13, c14, c15, c16, c17, c18, c19, c20, .bool false, c22, c23, c24, c25, c26, c27, c28, .int .i64 (2 * (r.houses.length : Int) - 1), c30, c31, c32, c33, c34, c35, c36, c37, c38, c39, c40, c41, c42, c43, c44, c45, c46, c47, c48, c49, c50, c51, c52, c53, c54, c55, c56, c57, c58, c59, c60, c61, c62, c63, c64, c65, c66, c67, c68, c69, c70, c71, c72, c73, c74, c75, c76, c77, c78, c79, c80, c81, c82, c83, c84, c85, c86, c87, c88, c89, c90, c91, c92, c93, c94, c95, c96, c97, c98, c99, c100, c101, c102, c103, c104, c105, c106, c107, c108, c109, c110, c111, c112, c113, c114, c115, c116, c117, c118, c119, c120, c121, c122, c123, c124, c125, c126, c127, c128, c129, c130, c131, c132, c133, c134, c135, c136, c137, c138, c139, c140, c141, c142, c143, c144, c145, c146, c147, c148, c149, c150, c151, c152, c153, c154, c155, c156, c157, c158, c159, c160, c161, c162, c163, c164, c165, c166, c167, c168, c169, c170, c171, c172, c173, c174, c175, c176, c177, c178, c179, c180, c181, c182, c183, c184, c185, c186, c187, c188, c189, c190, c191, c192, c193, c194, c195, c196, c197, c198, c199, c200, c201, c202, c203, c204, c205, c206, c207, c208, c209, c210, c211, c212, c213, c214, c215, c216, c217, c218, c219, c220, c221, c222, c223, c224, c225, c226, c227, c228, c229, c230, c231, c232, c233, c234, c235, c236, c237, c238, c239, c240, c241, c242, c243, c244, c245, c246, c247, c248, c249, c250, c251, c252, c253, c254, c255, c256, c257, c258, c259, c260, c261, c262, c263, c264, c265, c266, c267, c268, c269, c270, c271, c272, c273, c274, c275, c276, c277, c278, c279, c280, c281, c282, c283, c284, c285, c286, c287, c288, c289, c290, c291, c292, c293, c294, c295, c296, c297, c298, c299, c300, c301, c302, c303, c304, c305, c306, c307, c308, c309, c310, c311, c312, c313, c314, c315, c316, c317, c318, c319, c320, c321, c322, c323, c324, c325, c326], []⟩ W := by
  obtain ⟨hB, hb, hra, hxw, hbr, hsp, o1, o2, o3, o4, o5⟩ := h
  have HE := Lib.hid hexit
  have HBX := Lib.hid ha0
  have hn2 := hB.h2
  have hn1 := hB.h1
  have hlen : a0.length = 2 * r.houses.length := by rw [ha0.1, spansE_length]
  have HSP : Hid (∀ i p, (spansE r)[i]? = some p → W.cell? ⟨gs, i * 2, none⟩ = some (.int .i64 p.1) ∧ W.cell? ⟨gs, i * 2 + 1, none⟩ = some (.int .i64 p.2)) := fun i p hp => by
    obtain ⟨e0, e1⟩ := hsp i p hp
    have hne : ¬ EndsM ga go bS gs := fun h => by unfold EndsM at h; omega
    exact ⟨hT.cell e0 hne, hT.cell e1 hne⟩
  have HBB := Lib.hid hB
  have HGG : Hid (gs ≠ ga) := by unfold Hid; omega
  clear hexit hsp hra hxw hbr hT hb
  have HLN := Lib.hid hlen
  have hmix : Tryz.prog.follows .mixedOrders = true := by kernel_rfl
  conv => arg 2; arg 1; whnf
  conv => arg 4; zeta
  go_loopw [21, 29] (fun mv iv wr => ∃ (k : Nat) (more : Bool) (b : List Int), mv = .bool more ∧ iv = .int .i64 ((k : Int) - 1) ∧ Odo (spansE r) a0 (2 * r.houses.length) k more b ∧ wr.ownsRow B 3 1 (.slice (some ⟨ga, 0, none⟩) (2 * r.houses.length) ca) (2 * r.houses.length) (b.map (.int .i64)) ∧ Touch (· = ga) W wr) (fun _ iv _ => (intOf iv + 1).toNat)
  case atStart => exact ⟨2 * r.houses.length, false, a0, rfl, by simp, ⟨fun _ => ⟨Nat.le_refl _, by rw [List.take_of_length_le (by omega), List.drop_eq_nil_of_le (by unfold lowsE; rw [List.length_map, spansE_length]; omega), List.append_nil], fun j h1 h2 => by omega⟩, fun h => by cases h⟩, hat, Touch.refl _ _⟩
  case round =>
    clear hat
    obtain ⟨k, more, b, rfl, rfl, hodo, hown, ht⟩ := hrel
    by_cases hend : k = 0 ∨ more = true
    · have HEN := Lib.hid hend
      have HOD := Lib.hid hodo
      have HOW := Lib.hid hown
      have HTT := Lib.hid ht
      clear hend hodo hown ht
      by_cases hk0 : k = 0
      · have t1 : decide ((1 : Int) ≤ (k : Int)) = false := by simp; omega
        have t2 : decide (0 ≤ (k : Int) - 1) = false := by simp; omega
        have t3 : decide (1 ≤ k) = false := by simp; omega
        go_wp2
        exact HE.out _ _ _ _ _ _ _ _ _ _ _ _ _ _ _ _ _ _ _ _ _ _ _ _ _ _ _ _ _ _ _ _ _ k more b wr HOD.out HEN.out HOW.out HTT.out
      · have hm : more = true := by
          rcases HEN.out with h | h
          · exact absurd h hk0
          · exact h
        subst hm
        have t1 : decide ((1 : Int) ≤ (k : Int)) = true := by simp; omega
        have t2 : decide (0 ≤ (k : Int) - 1) = true := by simp; omega
        have t3 : decide (1 ≤ k) = true := by simp; omega
        go_wp2
        exact HE.out _ _ _ _ _ _ _ _ _ _ _ _ _ _ _ _ _ _ _ _ _ _ _ _ _ _ _ _ _ _ _ _ _ k true b wr HOD.out (.inr rfl) HOW.out HTT.out
    · have hm : more = false := by
        cases more with
        | false => rfl
        | true => exact absurd (.inr rfl) hend
      subst hm
      obtain ⟨k', rfl⟩ : ∃ k', k = k' + 1 := ⟨k - 1, by omega⟩
      obtain ⟨h1, h2, h3⟩ := hodo.1 rfl
      have hkl : k' < a0.length := by omega
      obtain ⟨x, hx⟩ : ∃ x, Hid (a0[k']? = some x) := ⟨_, List.getElem?_eq_getElem hkl⟩
      obtain ⟨p, hp⟩ : ∃ p, Hid ((spansE r)[k']? = some p) := ⟨_, List.getElem?_eq_getElem (by rw [spansE_length]; omega)⟩
      have hgx : a0.getD k' 0 = x := by rw [List.getD_eq_getElem?_getD, hx.out]; rfl
      have hgp : (spansE r).getD k' (0, 0) = p := by rw [List.getD_eq_getElem?_getD, hp.out]; rfl
      have hbox := HBX.out.2 k' (by rw [spansE_length]; omega)
      rw [hgx, hgp] at hbox
      have hbd := mem_spansE HBB.out (List.mem_of_getElem? hp.out)
      have hbk : b[k']? = some x := by
        rw [h2, List.getElem?_append_left (by rw [List.length_take]; omega), List.getElem?_take, if_pos (by omega)]; exact hx.out
      have hca : wr.cell? ⟨ga, k', none⟩ = some (.int .i64 x) := by
        rw [hown.cellAt k' (by omega), List.getElem?_map, hbk]; rfl
      have hcf := hown.frozenAt k'
      have hcs := ht.cell (HSP.out k' p hp.out).1 HGG.out
      have hct := ht.cell (HSP.out k' p hp.out).2 HGG.out
      have t1 : decide ((0 : Int) ≤ (k' : Int)) = true := by simp
      have t4 : (k' : Int) < 2 * (r.houses.length : Int) := by omega
      have t5 : k' < 2 * r.houses.length := by omega
      have hll : (lowsE (spansE r)).length = 2 * r.houses.length := by unfold lowsE; rw [List.length_map, spansE_length]
      have hld : (lowsE (spansE r)).drop k' = p.1 :: (lowsE (spansE r)).drop (k' + 1) := by
        have : (lowsE (spansE r))[k']? = some p.1 := by unfold lowsE; rw [List.getElem?_map, hp.out]; rfl
        obtain ⟨e1, e2⟩ := List.getElem?_eq_some_iff.1 this
        rw [List.drop_eq_getElem_cons e1, e2]
      have HST : Hid (∀ nq y, ((wr.drewN nq).setCell ⟨ga, k', none⟩ (.int .i64 y)).ownsRow B 3 1 (.slice (some ⟨ga, 0, none⟩) (2 * r.houses.length) ca) (2 * r.houses.length) ((a0.take k' ++ y :: (lowsE (spansE r)).drop (k' + 1)).map (.int .i64)) ∧ Touch (· = ga) W ((wr.drewN nq).setCell ⟨ga, k', none⟩ (.int .i64 y))) := fun nq y => by
        have h9 := ((owns_ext hown ((Ext.refl wr).drewN nq)).stored k' (.int .i64 y)).1
        rw [h2, ← List.map_set, set_mid hkl] at h9
        exact ⟨h9, (ht.trans (Touch.of_ext ((Ext.refl wr).drewN nq))).trans (Touch.setCell (M := (· = ga)) (a := ⟨ga, k', none⟩) _ rfl)⟩
      have H3 := Lib.hid h3
      have HLD := Lib.hid hld
      have HGX := Lib.hid hgx
      have HGP := Lib.hid hgp
      clear hodo hend h2 h3 hbk hgx hgp hll hld hown ht
      by_cases hlt : x < p.2
      · have t6 : decide (x < p.2) = true := by simpa using hlt
        have t7 : IntKind.i64.wrap (x + 1) = x + 1 := IntWalk.i64_in _ (by omega)
        go_wp2
        go_quiet (fail)
        go_wp2
        refine ⟨⟨k', true, _, rfl, rfl, ⟨(fun h => by cases h), fun _ => ⟨t5, rfl, by rw [HGX.out, HGP.out]; exact hlt, fun j h1 h2 => H3.out j (by omega) h2⟩⟩, ?_, (HST.out _ _).2⟩, by simp [intOf] <;> omega⟩
        unfold nextAtE
        rw [HGX.out]
        exact (HST.out _ _).1
      · have t6 : decide (x < p.2) = false := by simpa using hlt
        go_wp2
        go_quiet (fail)
        go_wp2
        refine ⟨⟨k', false, a0.take k' ++ (lowsE (spansE r)).drop k', rfl, rfl, ⟨fun _ => ⟨by omega, rfl, fun j h1 h2 => ?_⟩, (fun h => by cases h)⟩, ?_, (HST.out _ _).2⟩, by simp [intOf] <;> omega⟩
        · by_cases e : j = k'
          · subst e; rw [HGX.out, HGP.out]; omega
          · exact H3.out j (by omega) h2
        · rw [HLD.out]
          exact (HST.out _ _).1
end Go.Proofs.YtbeophjdiddomaaGreatDoor
