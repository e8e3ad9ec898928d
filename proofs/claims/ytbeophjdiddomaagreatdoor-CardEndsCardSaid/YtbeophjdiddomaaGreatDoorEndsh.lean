/- CardEnds: the great loop. -/
import Derived.Test.YtbeophjdiddomaaGreatDoorEndsg
namespace Go.Proofs.YtbeophjdiddomaaGreatDoor
open Go.RowKit

/-- The numbers that lie in a row. -/
def readE (w : World) (ga n : Nat) : List Int := (List.range n).map fun i => intOf ((w.cell? ⟨ga, i, none⟩).getD undef)
theorem readE_own {W : World} {B ga ca n : Nat} {l : List Int} (hl : l.length = n) (h : W.ownsRow B 3 1 (.slice (some ⟨ga, 0, none⟩) n ca) n (l.map (.int .i64))) : readE W ga n = l := by
  refine List.ext_getElem? fun i => ?_
  unfold readE
  by_cases hi : i < n
  · have e := h.cellAt i (by omega)
    rw [List.getElem?_map, List.getElem?_eq_getElem (show i < l.length by omega)] at e
    rw [List.getElem?_map, List.getElem?_range hi, List.getElem?_eq_getElem (show i < l.length by omega)]
    simp [e, intOf]
  · rw [List.getElem?_eq_none (by simp; omega), List.getElem?_eq_none (by omega)]
theorem owns_keep {W W' : World} {base : Nat} {e : TypeId} {size : Nat} {v : Value} {n : Nat} {xs : List Value} (h : W.ownsRow base e size v n xs) (hk : ∀ g o, v.ownBlock = some g → W.heap[g]? = some o → W'.heap[g]? = some o) : W'.ownsRow base e size v n xs := by
  obtain ⟨h1, ⟨rfl, rfl⟩ | ⟨g, cap, cur, rfl, hg1, hh, r⟩⟩ := h
  · exact ⟨h1, .inl ⟨rfl, rfl⟩⟩
  · exact ⟨h1, .inr ⟨g, cap, cur, rfl, hg1, hk g _ rfl hh, r⟩⟩
/-- How many numbers are still to be tried. -/
def greatMu (S : List (Int × Int)) (ga n : Nat) (v : Value) (w : World) : Nat := match v with
  | .bool true => tot S - rankE S (readE w ga n)
  | _ => 0
theorem rowOwn_truth {W3 W' : World} {base go bS bx : Nat} {fa la : Option Addr} {fc lc n : Nat} {a0 : List Int} (h1 : go < base) (h2 : bS + 1 < base) (h3 : bx < base) (hf : W3.ownsRow base 3 1 (.slice fa n fc) n ((fullsE a0 n).map (.int .i64))) (hl : W3.ownsRow base 3 1 (.slice la n lc) n ((loosesE a0 n).map (.int .i64))) (xw : Int) (ht : Touch (EndsN go bS bx) W3 W') : TruthAt W' (.agg #[.int .i64 xw, .slice fa n fc, .slice la n lc]) (truthE n xw a0) := by
  have key : ∀ {fa : Option Addr} {fc : Nat} {l : List Int}, l.length = n → W3.ownsRow base 3 1 (.slice fa n fc) n (l.map (.int .i64)) → IntsAt W' (.slice fa n fc) l := fun {fa fc l} hl hw => by
    have h9 := RowAt.touch (RowAt.of_owns hw) ht (fun a n c e hm => by
      cases e
      have h8 := hown_block hw
      unfold EndsN at hm; omega)
    show RowAt W' _ l.length _
    rw [hl]
    exact h9
  exact ⟨_, _, rfl, key (l := fullsE a0 n) (by simp [fullsE]) hf, key (l := loosesE a0 n) (by simp [loosesE]) hl⟩
set_option maxRecDepth 1000000 in
set_option maxHeartbeats 64000000 in
theorem ends_great {Q0 : Exit → Act → World → Prop} (r : Round) (w W0 : World) (a : Option Addr) (c gs cs ga ca go bS : Nat) (h : EndsCtx r w W0 a c gs cs ga ca go bS) (m0 : Bool) (B1 B2 : Nat) (c0 c2 c3 c5 c6 c8 c9 c10 c11 c12 c13 c14 c15 c16 c22 c23 c24 c25 c26 c27 c28 c29 c30 c31 c32 c33 c34 c35 c36 c37 c38 c39 c40 c41 c42 c43 c44 c45 c46 c47 c48 c49 c50 c51 c52 c53 c54 c55 c56 c57 c58 c59 c60 c61 c62 c63 c64 c65 c66 c67 c68 c69 c70 c71 c72 c73 c74 c75 c76 c77 c78 c79 c80 c81 c82 c83 c84 c85 c86 c87 c88 c89 c90 c91 c92 c93 c94 c95 c96 c97 c98 c99 c100 c101 c102 c103 c104 c105 c106 c107 c108 c109 c110 c111 c112 c113 c114 c115 c116 c117 c118 c119 c120 c121 c122 c123 c124 c125 c126 c127 c128 c129 c130 c131 c132 c133 c134 c135 c136 c137 c138 c139 c140 c141 c142 c143 c144 c145 c146 c147 c148 c149 c150 c151 c152 c153 c154 c155 c156 c157 c158 c159 c160 c161 c162 c163 c164 c165 c166 c167 c168 c169 c170 c171 c172 c173 c174 c175 c176 c177 c178 c179 c180 c181 c182 c183 c184 c185 c186 c187 c188 c189 c190 c191 c192 c193 c194 c195 c196 c197 c198 c199 c200 c201 c202 c203 c204 c205 c206 c207 c208 c209 c210 c211 c212 c213 c214 c215 c216 c217 c218 c219 c220 c221 c222 c223 c224 c225 c226 c227 c228 c229 c230 c231 c232 c233 c234 c235 c236 c237 c238 c239 c240 c241 c242 c243 c244 c245 c246 c247 c248 c249 c250 c251 c252 c253 c254 c255 c256 c257 c258 c259 c260 c261 c262 c263 c264 c265 c266 c267 c268 c269 c270 c271 c272 c273 c274 c275 c276 c277 c278 c279 c280 c281 c282 c283 c284 c285 c286 c287 c288 c289 c290 c291 c292 c293 c294 c295 c296 c297 c298 c299 c300 c301 c302 c303 c304 c305 c306 c307 c308 c309 c310 c311 c312 c313 c314 c315 c316 c317 c318 c319 c320 c321 c322 c323 c324 c325 c326 : Value) (hat : W0.ownsRow B1 3 1 (.slice (some ⟨ga, 0, none⟩) (2 * r.houses.length) ca) (2 * r.houses.length) ((lowsE (spansE r)).map (.int .i64))) (how : W0.ownsRow B2 23 2 (.slice (some ⟨go, 0, none⟩) r.houses.length r.houses.length) r.houses.length ((List.replicate r.houses.length ((0 : Int), (0 : Int))).flatMap spanCells)) (hbs : W0.heap[bS]? = some (boxP2 (0, 0))) (hbw : W0.heap[bS + 1]? = some (boxP2 (0, 0))) (hm1 : m0 = true → ∀ p, p ∈ spansE r → p.1 ≤ p.2) (hm0 : m0 = false → ∀ a w, ¬ TriedE r a w) (hexit : ∀ (y2 y21 y22 y23 y24 y25 y26 y27 y28 y29 y135 y136 y137 y138 y139 y140 y141 y142 y143 y144 y145 y146 y147 y148 y149 y150 y151 y152 y153 y154 y155 y156 y157 y158 y159 y160 y161 y162 y163 y164 y165 y166 y167 y168 y169 y170 y171 y172 y173 y174 y175 y176 y177 y178 y179 y180 y181 y182 y183 y184 y185 y186 y187 y188 y189 y190 y191 y192 y193 y194 y195 y196 y197 y198 y199 y200 y201 y202 y203 y204 y205 y206 y207 y208 y209 y210 y211 y212 y213 y214 y215 y216 y217 y218 y219 y220 y221 y222 y223 y224 y225 y226 y227 y228 y229 y230 y231 y232 y233 y234 y235 y236 y237 y238 y239 y240 y241 y242 y243 y244 y245 y246 y247 y248 y249 y250 y251 y252 y253 y254 y255 y256 y257 y258 y259 y260 y261 y262 y263 y264 y265 y266 y267 y268 y269 y270 y271 y272 y273 y274 y275 y276 : Value) (own : List (Int × Int)) (su we : Int × Int) (met : Bool) (W' : World), AccE r (TriedE r) own su we met → W'.ownsRow B2 23 2 (.slice (some ⟨go, 0, none⟩) r.houses.length r.houses.length) r.houses.length (own.flatMap spanCells) → W'.heap[bS]? = some (boxP2 su) → W'.heap[bS + 1]? = some (boxP2 we) → Touch (EndsM ga go bS) W0 W' → Q0 (.exit 4) ⟨#[c0, .pointer (some ⟨w.heap.size, 0, none⟩), y2, c3, .slice (some ⟨gs, 0, none⟩) (2 * r.houses.length) cs, c5, c6, .slice (some ⟨ga, 0, none⟩) (2 * r.houses.length) ca, c8, c9, c10, c11, c12, c13, c14, c15, c16, .slice (some ⟨go, 0, none⟩) r.houses.length r.houses.length, .pointer (some ⟨bS, 0, none⟩), .pointer (some ⟨bS + 1, 0, none⟩), .bool met, y21, y22, y23, y24, y25, y26, y27, y28, y29, c30, c31, c32, c33, c34, c35, c36, c37, c38, c39, c40, c41, c42, c43, c44, c45, c46, c47, c48, c49, c50, c51, c52, c53, c54, c55, c56, c57, c58, c59, c60, c61, c62, c63, c64, c65, c66, c67, c68, c69, c70, c71, c72, c73, c74, c75, c76, c77, c78, c79, c80, c81, c82, c83, c84, c85, c86, c87, c88, c89, c90, c91, c92, c93, c94, c95, c96, c97, c98, c99, c100, c101, c102, c103, c104, c105, c106, c107, c108, c109, c110, c111, c112, c113, c114, c115, c116, c117, c118, c119, c120, c121, c122, c123, c124, c125, c126, c127, c128, c129, c130, c131, c132, c133, c134, y135, y136, y137, y138, y139, y140, y141, y142, y143, y144, y145, y146, y147, y148, y149, y150, y151, y152, y153, y154, y155, y156, y157, y158, y159, y160, y161, y162, y163, y164, y165, y166, y167, y168, y169, y170, y171, y172, y173, y174, y175, y176, y177, y178, y179, y180, y181, y182, y183, y184, y185, y186, y187, y188, y189, y190, y191, y192, y193, y194, y195, y196, y197, y198, y199, y200, y201, y202, y203, y204, y205, y206, y207, y208, y209, y210, y211, y212, y213, y214, y215, y216, y217, y218, y219, y220, y221, y222, y223, y224, y225, y226, y227, y228, y229, y230, y231, y232, y233, y234, y235, y236, y237, y238, y239, y240, y241, y242, y243, y244, y245, y246, y247, y248, y249, y250, y251, y252, y253, y254, y255, y256, y257, y258, y259, y260, y261, y262, y263, y264, y265, y266, y267, y268, y269, y270, y271, y272, y273, y274, y275, y276, c277, c278, c279, c280, c281, c282, c283, c284, c285, c286, c287, c288, c289, c290, c291, c292, c293, c294, c295, c296, c297, c298, c299, c300, c301, c302, c303, c304, c305, c306, c307, c308, c309, c310, c311, c312, c313, c314, c315, c316, c317, c318, c319, c320, c321, c322, c323, c324, c325, c326], []⟩ W') : Code.wp Tryz.prog (Code.loop endsB2) Q0 ⟨#[c0, .pointer (some ⟨w.heap.size, 0, none⟩), c2, c3, .slice (some ⟨gs, 0, none⟩) (2 * r.houses.length) cs, c5, c6, .slice (some ⟨ga, 0, none⟩) (2 * r.houses.length) ca, c8, c9, c10, c11, c12, c13, c14, c15, c16, .slice (some ⟨go, 0, none⟩) r.houses.length r.houses.length, .pointer (some ⟨bS, 0, none⟩), .pointer (some ⟨bS + 1, 0, none⟩), .bool false, .bool m0, c22, c23, c24, c25, c26, c27, c28, c29, c30, c31, c32, c33, c34, c35, c36, c37, c38, c39, c40, c41, c42, c43, c44, c45, c46, c47, c48, c49, c50, c51, c52, c53, c54, c55, c56, c57, c58, c59, c60, c61, c62, c63, c64, c65, c66, c67, c68, c69, c70, c71, c72, c73, c74, c75, c76, c77, c78, c79, c80, c81, c82, c83, c84, c85, c86, c87, c88, c89, c90, c91, c92, c93, c94, c95, c96, c97, c98, c99, c100, c101, c102, c103, c104, c105, c106, c107, c108, c109, c110, c111, c112, c113, c114, c115, c116, c117, c118, c119, c120, c121, c122, c123, c124, c125, c126, c127, c128, c129, c130, c131, c132, c133, c134, c135, c136, c137, c138, c139, c140, c141, c142, c143, c144, c145, c146, c147, c148, c149, c150, c151, c152, c153, c154, c155, c156, c157, c158, c159, c160, c161, c162, c163, c164, c165, c166, c167, c168, c169, c170, c171, c172, c173, c174, c175, c176, c177, c178, c179, c180, c181, c182, c183, c184, c185, c186, c187, c188, c189, c190, c191, c192, c193, c194, c195, c196, c197, c198, c199, c200, c201, c202, c203, c204, c205, c206, c207, c208, c209, c210, c211, c212, c213, c214, c215, c216, c217, c218, c219, c220, c221, c222, c223, c224, c225, c226, c227, c228, c229, c230, c231, c232, c233, c234, c235, c236, c237, c238, c239, c240, c241, c242, c243, c244, c245, c246, c247, c248, c249, c250, c251, c252, c253, c254, c255, c256, c257, c258, c259, c260, c261, c262, c263, c264, c265, c266, c267, c268, c269, c270, c271, c272, c273, c274, c275, c276, c277, c278, c279, c280, c281, c282, c283, c284, c285, c286, c287, c288, c289, c290, c291, c292, c293, c294, c295, c296, c297, c298, c299, c300, c301, c302, c303, c304, c305, c306, c307, c308, c309, c310, c311, c312, c313, c314, c315, c316, c317, c318, c319, c320, c321, c322, c323, c324, c325, c326], []⟩ W0 := by
  have hctx := h
  obtain ⟨hB, hb, hra, hxw, hbr, hsp, o1, o2, o3, o4, o5⟩ := h
  have HE := Lib.hid hexit
  have HBR := Lib.hid hbr
  have HXW := Lib.hid hxw
  have HCT := Lib.hid hctx
  have HBB := Lib.hid hB
  have hn1 := hB.h1
  have hn2 := hB.h2
  have hl1 := hB.l1
  have hl2 := hB.l2
  have hl3 := hB.l3
  clear hexit hbr hxw hctx hsp hra hb
  have hmix : Tryz.prog.follows .mixedOrders = true := by kernel_rfl
  conv => arg 2; arg 1; whnf
  conv => arg 4; zeta
  go_loopw [20, 21] (fun mv nv wr => ∃ (more met : Bool) (a0 : List Int) (own : List (Int × Int)) (su we : Int × Int), mv = .bool met ∧ nv = .bool more ∧ a0.length = 2 * r.houses.length ∧ wr.ownsRow B1 3 1 (.slice (some ⟨ga, 0, none⟩) (2 * r.houses.length) ca) (2 * r.houses.length) (a0.map (.int .i64)) ∧ wr.ownsRow B2 23 2 (.slice (some ⟨go, 0, none⟩) r.houses.length r.houses.length) r.houses.length (own.flatMap spanCells) ∧ wr.heap[bS]? = some (boxP2 su) ∧ wr.heap[bS + 1]? = some (boxP2 we) ∧ Touch (EndsM ga go bS) W0 wr ∧ (more = true → InBox (spansE r) a0 ∧ AccE r (SeenE r (rankE (spansE r) a0) r.lo) own su we met) ∧ (more = false → AccE r (TriedE r) own su we met)) (fun _ nv wr => greatMu (spansE r) ga (2 * r.houses.length) nv wr)
  case atStart =>
    refine ⟨m0, false, lowsE (spansE r), List.replicate r.houses.length (0, 0), (0, 0), (0, 0), rfl, rfl, by unfold lowsE; rw [List.length_map, spansE_length], hat, how, hbs, hbw, Touch.refl _ _, fun e => ?_, fun e => ?_⟩
    · obtain ⟨l1, l2⟩ := lows_box (hm1 e)
      refine ⟨l1, ?_⟩
      rw [l2]
      exact acc_zero r (by simp) _ _
    · exact (acc_zero r (own := List.replicate r.houses.length (0, 0)) (by simp) _ _).congr (fun a w => ⟨fun h => absurd h (hm0 e a w), fun h => absurd h (seen_zero r a w)⟩)
  case round =>
    clear hat how hbs hbw hm1 hm0
    obtain ⟨more, met, a0, own, su, we, rfl, rfl, hal, hat, how, hbs, hbw, ht, hy, hno⟩ := hrel
    cases more with
    | false =>
      have HF := Lib.hid (And.intro (hno rfl) (And.intro how (And.intro hbs (And.intro hbw ht))))
      clear hat how hbs hbw ht hy hno
      go_wp2
      exact HE.out _ _ _ _ _ _ _ _ _ _ _ _ _ _ _ _ _ _ _ _ _ _ _ _ _ _ _ _ _ _ _ _ _ _ _ _ _ _ _ _ _ _ _ _ _ _ _ _ _ _ _ _ _ _ _ _ _ _ _ _ _ _ _ _ _ _ _ _ _ _ _ _ _ _ _ _ _ _ _ _ _ _ _ _ _ _ _ _ _ _ _ _ _ _ _ _ _ _ _ _ _ _ _ _ _ _ _ _ _ _ _ _ _ _ _ _ _ _ _ _ _ _ _ _ _ _ _ _ _ _ _ _ _ _ _ _ _ _ _ _ _ _ _ _ _ _ _ _ _ _ _ _ own su we met wr HF.out.1 HF.out.2.1 HF.out.2.2.1 HF.out.2.2.2.1 HF.out.2.2.2.2
    | true =>
      obtain ⟨hbox, hacc⟩ := hy rfl
      have hrk := rank_lt hbox
      have HMU : Hid (greatMu (spansE r) ga (2 * r.houses.length) (.bool true) wr = tot (spansE r) - rankE (spansE r) a0) := by
        unfold Hid greatMu
        rw [readE_own hal hat]
      have hxa : Ext wr (wr.alloc (.cells #[.int .i64 0, .slice none 0 0, .slice none 0 0] 42)) := (Ext.refl wr).alloc _
      have hsz0 := ht.size
      have hAC : ∀ j y, a0[j]? = some y → wr.cell? ⟨ga, j, none⟩ = some (.int .i64 y) := fun j y hy => by
        have hl := (List.getElem?_eq_some_iff.1 hy).1
        rw [hat.cellAt j (by omega), List.getElem?_map, hy]; rfl
      have HAC := Lib.hid (fun j y (hy : a0[j]? = some y) => hxa.cell (hAC j y hy))
      have hbrr := ht.keep _ _ HBR.out (by unfold EndsM; omega)
      have HBRA := Lib.hid ((hxa.block (lt_of_heap hbrr)).trans hbrr)
      have HBXA : Hid ((wr.alloc (.cells #[.int .i64 0, .slice none 0 0, .slice none 0 0] 42)).heap[wr.heap.size]? = some (boxX 0 (.slice none 0 0) (.slice none 0 0))) := World.alloc_heap_new wr _
      have HOA := Lib.hid (owns_ext how hxa)
      have HAA := Lib.hid (owns_ext hat hxa)
      have HSA := Lib.hid (And.intro ((hxa.block (lt_of_heap hbs)).trans hbs) ((hxa.block (lt_of_heap hbw)).trans hbw))
      have HTA := Lib.hid (ht.trans (Touch.of_ext hxa))
      have HACC := Lib.hid hacc
      have HBOX := Lib.hid hbox
      have HAL := Lib.hid hal
      clear hat how hbs hbw hy hno hacc hAC hbrr hal ht hxa
      go_wp2
      rename_i K hK
      have HK := Lib.hid hK
      clear hK
      refine ends_l3 r w W0 a c gs cs ga ca go bS HCT.out a0 wr.heap.size _ _ _ _ _ _ _ _ _ _ _ _ _ _ _ _ _ _ _ _ _ _ _ _ _ _ _ _ _ _ _ _ _ _ _ _ _ _ _ _ _ _ _ _ _ _ _ _ _ _ _ _ _ _ _ _ _ _ _ _ _ _ _ _ _ _ _ _ _ _ _ _ _ _ _ _ _ _ _ _ _ _ _ _ _ _ _ _ _ _ _ _ _ _ _ _ _ _ _ _ _ _ _ _ _ _ _ _ _ _ _ _ _ _ _ _ _ _ _ _ _ _ _ _ _ _ _ _ _ _ _ _ _ _ _ _ _ _ _ _ _ _ _ _ _ _ _ _ _ _ _ _ _ _ _ _ _ _ _ _ _ _ _ _ _ _ _ _ _ _ _ _ _ _ _ _ _ _ _ _ _ _ _ _ _ _ _ _ _ _ _ _ _ _ _ _ _ _ _ _ _ _ _ _ _ _ _ _ _ _ _ _ _ _ _ _ _ _ _ _ _ _ _ _ _ _ _ _ _ _ _ _ _ _ _ _ _ _ _ _ _ _ _ _ _ _ _ _ _ _ _ _ _ _ _ _ _ _ _ _ _ _ _ _ _ _ _ _ _ _ _ _ _ _ _ _ _ _ _ _ _ _ _ _ _ _ _ _ _ _ _ _ _ _ _ _ _ _ _ _ _ _ _ _ _ _ _ _ _ _ _ _ _ _ _ _ _ _ _ _ _ _ (wr.alloc (.cells #[.int .i64 0, .slice none 0 0, .slice none 0 0] 42)) HBOX.out HAC.out HBRA.out HBXA.out (by omega) (fun y24 y137 y138 y139 y140 y141 y142 y143 y144 y145 y146 y147 y148 y149 y150 y151 y152 y153 y154 y155 y156 y157 y158 y159 y160 y161 y162 y163 y164 y165 y166 y167 y168 y169 y170 y171 y172 y173 y174 y175 y176 y177 y178 y179 y180 y181 fv lv W3 hbx3 hfo hlo ht3 => ?_)
      refine HK.out _ _ ?_
      have hga3 : ¬ ga = wr.heap.size := by omega
      have hgo3 : ¬ go = wr.heap.size := by omega
      have HAC3 := Lib.hid (fun j y (hy : a0[j]? = some y) => ht3.cell (HAC.out j y hy) hga3)
      have hbr3 := ht3.keep _ _ HBRA.out (by omega)
      have HBR3 := Lib.hid hbr3
      have hxw3 : Ext w W3 := Touch.ext (Touch.ext HXW.out HTA.out (fun k hk => by have h9 := HXW.out.size; unfold EndsM at hk; omega)) ht3 (fun k hk => by have hk' : k = wr.heap.size := hk; have h9 := HXW.out.size; omega)
      have HXW3 := Lib.hid hxw3
      have HO3 := Lib.hid (owns_keep HOA.out (fun g o hg ho => ht3.keep g o ho (by cases hg; exact hgo3)))
      have HA3 := Lib.hid (owns_keep HAA.out (fun g o hg ho => ht3.keep g o ho (by cases hg; exact hga3)))
      have HS3 := Lib.hid (And.intro (ht3.keep _ _ HSA.out.1 (by omega)) (ht3.keep _ _ HSA.out.2 (by omega)))
      obtain ⟨fa, fc, rfl, -⟩ := RowAt.of_owns hfo
      obtain ⟨la, lc, rfl, -⟩ := RowAt.of_owns hlo
      have HTV := Lib.hid (fun W' xw (hT : Touch (EndsN go bS wr.heap.size) W3 W') => rowOwn_truth (base := wr.heap.size + 1) (by omega) (by omega) (by omega) (by simpa using hfo) (by simpa using hlo) xw hT)
      have HBX3 := Lib.hid hbx3
      have HT3 := Lib.hid ht3
      obtain ⟨z0, z1, z2, z3, z4, z5, z6, z7⟩ := round_cells hbr3
      clear hbr3 hxw3 hfo hlo hbx3 ht3 HK K
      go_wp2
      rename_i K hK
      have HK := Lib.hid hK
      clear hK z0 z1 z2 z3 z4 z5 z6 z7
      refine ends_l4 r w W0 a c gs cs ga ca go bS HCT.out a0 met own su we wr.heap.size (.slice fa r.houses.length fc) (.slice la r.houses.length lc) B2 _ _ _ _ _ _ _ _ _ _ _ _ _ _ _ _ _ _ _ _ _ _ _ _ _ _ _ _ _ _ _ _ _ _ _ _ _ _ _ _ _ _ _ _ _ _ _ _ _ _ _ _ _ _ _ _ _ _ _ _ _ _ _ _ _ _ _ _ _ _ _ _ _ _ _ _ _ _ _ _ _ _ _ _ _ _ _ _ _ _ _ _ _ _ _ _ _ _ _ _ _ _ _ _ _ _ _ _ _ _ _ _ _ _ _ _ _ _ _ _ _ _ _ _ _ _ _ _ _ _ _ _ _ _ _ _ _ _ _ _ _ _ _ _ _ _ _ _ _ _ _ _ _ _ _ _ _ _ _ _ _ _ _ _ _ _ _ _ _ _ _ _ _ _ _ _ _ _ _ _ _ _ _ _ _ _ _ _ _ _ _ _ _ _ _ _ _ _ _ _ _ _ _ _ _ _ _ _ _ _ _ _ _ _ _ _ _ _ _ _ _ _ _ _ _ _ _ _ _ _ _ _ _ _ _ _ _ _ _ _ _ _ _ _ _ _ _ _ _ _ _ _ _ _ _ _ _ _ _ _ _ _ _ _ _ _ _ _ _ _ _ _ _ _ _ _ _ _ _ _ _ _ _ _ _ _ _ _ _ _ _ _ _ _ _ _ _ _ _ _ _ _ _ _ _ _ _ _ _ _ _ _ _ _ _ _ _ _ W3 HBOX.out HAC3.out HBR3.out HXW3.out HBX3.out (by omega) ⟨_, _, rfl⟩ ⟨_, _, rfl⟩ HTV.out HO3.out HS3.out.1 HS3.out.2 HACC.out (fun y2 y25 y26 y27 y28 y185 y186 y187 y188 y189 y190 y191 y192 y193 y194 y195 y196 y197 y198 y199 y200 y201 y202 y203 y204 y205 y206 y207 y208 y209 y210 y211 y212 y213 y214 y215 y216 y217 y218 y219 y220 y221 y222 y223 y224 y225 y226 y227 y228 y229 y230 y231 y232 y233 y234 y235 y236 y237 y238 y239 y240 y241 own4 su4 we4 met4 W4 hacc4 how4 hbs4 hbw4 ht4 => ?_)
      refine HK.out _ _ ?_
      have HA4 := Lib.hid (owns_keep HA3.out (fun g o hg ho => ht4.keep g o ho (by cases hg; show ¬ EndsN go bS wr.heap.size ga; unfold EndsN; omega)))
      have HT4 : Hid (Touch (EndsM ga go bS) W0 W4) := Touch.of_new (N := fun k => EndsM ga go bS k ∨ k = wr.heap.size) (((HTA.out.mono (fun k h => Or.inl h)).trans (HT3.out.mono (fun k h => Or.inr h))).trans (ht4.mono (fun k h => by unfold EndsN at h; unfold EndsM; omega))) (fun k h hk => h.elim id (fun h => by omega))
      have HF4 := Lib.hid (And.intro hacc4 (And.intro how4 (And.intro hbs4 hbw4)))
      have E8 : IntKind.i64.wrap (2 * (r.houses.length : Int) - 1) = 2 * (r.houses.length : Int) - 1 := IntWalk.i64_in _ (by omega)
      clear hacc4 how4 hbs4 hbw4 ht4 HK K
      go_wp2
      refine ends_l6 r w W0 a c gs cs ga ca go bS HCT.out a0 B1 _ _ _ _ _ _ _ _ _ _ _ _ _ _ _ _ _ _ _ _ _ _ _ _ _ _ _ _ _ _ _ _ _ _ _ _ _ _ _ _ _ _ _ _ _ _ _ _ _ _ _ _ _ _ _ _ _ _ _ _ _ _ _ _ _ _ _ _ _ _ _ _ _ _ _ _ _ _ _ _ _ _ _ _ _ _ _ _ _ _ _ _ _ _ _ _ _ _ _ _ _ _ _ _ _ _ _ _ _ _ _ _ _ _ _ _ _ _ _ _ _ _ _ _ _ _ _ _ _ _ _ _ _ _ _ _ _ _ _ _ _ _ _ _ _ _ _ _ _ _ _ _ _ _ _ _ _ _ _ _ _ _ _ _ _ _ _ _ _ _ _ _ _ _ _ _ _ _ _ _ _ _ _ _ _ _ _ _ _ _ _ _ _ _ _ _ _ _ _ _ _ _ _ _ _ _ _ _ _ _ _ _ _ _ _ _ _ _ _ _ _ _ _ _ _ _ _ _ _ _ _ _ _ _ _ _ _ _ _ _ _ _ _ _ _ _ _ _ _ _ _ _ _ _ _ _ _ _ _ _ _ _ _ _ _ _ _ _ _ _ _ _ _ _ _ _ _ _ _ _ _ _ _ _ _ _ _ _ _ _ _ _ _ _ _ _ _ _ _ _ _ _ _ _ _ _ _ _ _ _ _ _ _ _ _ _ _ _ _ _ _ _ _ W4 HBOX.out HA4.out HT4.out (fun y29 y245 y246 y247 y248 y249 y250 y251 y252 y253 y254 y255 y256 y257 y258 y259 y260 y261 y262 y263 y264 y265 y266 y267 y268 y269 y270 y271 y272 y273 y274 y275 y276 k more' b W6 hodo hend hat6 ht6 => ?_)
      have HF6 := Lib.hid (And.intro hodo (And.intro hend (And.intro hat6 ht6)))
      have hl6 : b.length = 2 * r.houses.length := by
        have h9 := hat6.1
        rw [List.length_map] at h9
        omega
      have HO6 := Lib.hid (owns_keep HF4.out.2.1 (fun g o hg ho => ht6.keep g o ho (by cases hg; show ¬ go = ga; omega)))
      have HS6 := Lib.hid (And.intro (ht6.keep _ _ HF4.out.2.2.1 (by show ¬ bS = ga; omega)) (ht6.keep _ _ HF4.out.2.2.2 (by show ¬ bS + 1 = ga; omega)))
      have HT6 : Hid (Touch (EndsM ga go bS) W0 W6) := HT4.out.trans (ht6.mono (fun k h => .inl h))
      have HRE := Lib.hid (readE_own hl6 hat6)
      clear hodo hend hat6 ht6
      have hfin : (∃ (more met : Bool) (a0 : List Int) (own : List (Int × Int)) (su we : Int × Int), (Value.bool met4) = .bool met ∧ (Value.bool more') = .bool more ∧ a0.length = 2 * r.houses.length ∧ W6.ownsRow B1 3 1 (.slice (some ⟨ga, 0, none⟩) (2 * r.houses.length) ca) (2 * r.houses.length) (a0.map (.int .i64)) ∧ W6.ownsRow B2 23 2 (.slice (some ⟨go, 0, none⟩) r.houses.length r.houses.length) r.houses.length (own.flatMap spanCells) ∧ W6.heap[bS]? = some (boxP2 su) ∧ W6.heap[bS + 1]? = some (boxP2 we) ∧ Touch (EndsM ga go bS) W0 W6 ∧ (more = true → InBox (spansE r) a0 ∧ AccE r (SeenE r (rankE (spansE r) a0) r.lo) own su we met) ∧ (more = false → AccE r (TriedE r) own su we met)) ∧ greatMu (spansE r) ga (2 * r.houses.length) (.bool more') W6 < greatMu (spansE r) ga (2 * r.houses.length) (.bool true) wr := by
        rw [HMU.out]
        cases more' with
        | true =>
          obtain ⟨k1, rfl, k3, k4⟩ := HF6.out.1.2 rfl
          obtain ⟨n1, n2⟩ := next_rank HBOX.out (by rw [spansE_length]; exact k1) k3 (fun j h1 h2 => k4 j h1 (by rw [spansE_length] at h2; exact h2))
          refine ⟨⟨true, met4, _, own4, su4, we4, rfl, rfl, hl6, HF6.out.2.2.1, HO6.out, HS6.out.1, HS6.out.2, HT6.out, fun _ => ⟨n1, ?_⟩, fun h => by cases h⟩, ?_⟩
          · rw [n2]
            exact HF4.out.1.congr (fun a w => seen_turn _ a w)
          · show tot (spansE r) - rankE (spansE r) (readE W6 ga (2 * r.houses.length)) < _
            rw [HRE.out, n2]
            have := rank_lt n1
            omega
        | false =>
          have hk0 : k = 0 := by
            rcases HF6.out.2.1 with h | h
            · exact h
            · cases h
          subst hk0
          obtain ⟨-, -, k4⟩ := HF6.out.1.1 rfl
          have htot := all_hi HBOX.out (fun j hj => k4 j (Nat.zero_le _) (by rw [spansE_length] at hj; exact hj))
          refine ⟨⟨false, met4, b, own4, su4, we4, rfl, rfl, hl6, HF6.out.2.2.1, HO6.out, HS6.out.1, HS6.out.2, HT6.out, (fun h => by cases h), fun _ => ?_⟩, ?_⟩
          · exact HF4.out.1.congr (fun a w => (seen_all (k := rankE (spansE r) a0 + 1) (by omega) a w).symm.trans (seen_turn _ a w))
          · show 0 < _
            omega
      refine And.intro ?_ hfin.2
      exact ⟨_, _, _, _, _, _, _, _, _, _, _, _, _, _, _, _, _, _, _, _, _, _, _, _, _, _, _, _, _, _, _, _, _, _, _, _, _, _, _, _, _, _, _, _, _, _, _, _, _, _, _, _, _, _, _, _, _, _, _, _, _, _, _, _, _, _, _, _, _, _, _, _, _, _, _, _, _, _, _, _, _, _, _, _, _, _, _, _, _, _, _, _, _, _, _, _, _, _, _, _, _, _, _, _, _, _, _, _, _, _, _, _, _, _, _, _, _, _, _, _, _, _, _, _, _, _, _, _, _, _, _, _, _, _, _, _, _, _, _, _, _, _, _, _, _, _, _, _, _, _, _, _, _, hfin.1, rfl⟩
end Go.Proofs.YtbeophjdiddomaaGreatDoor
