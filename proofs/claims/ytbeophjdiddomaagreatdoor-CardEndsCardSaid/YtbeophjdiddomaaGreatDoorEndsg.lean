/- CardEnds: the loop over the weights of a button. -/
import Derived.Test.YtbeophjdiddomaaGreatDoorEndsf
namespace Go.Proofs.YtbeophjdiddomaaGreatDoor
open Go.RowKit

/-- The blocks that the weights' loop turns. -/
def EndsN (go bS bx : Nat) (k : Nat) : Prop := k = go ∨ k = bS ∨ k = bS + 1 ∨ k = bx
theorem fitsE_any (v xv : Value) (r : Round) (wc : Int) (a0 : List Int) (W : World) (hb : isRoundB r = true) (hr : RoundAt W v r) (hx : TruthAt W xv (truthE r.houses.length wc a0)) : Calls Tryz.prog 15 #[v, xv] W fun e w' => e = .returned (.tuple #[.bool (fitsB r (truthE r.houses.length wc a0) (-1)), .int .i64 0]) ∧ Ext W w' := by
  refine (fits_any v xv r _ W hr hx).mono fun e w' h => ?_
  obtain ⟨is, err, rfl, hx', h⟩ := h
  rw [if_pos ⟨hb, truthE_ok r wc a0⟩] at h
  obtain ⟨rfl, rfl⟩ := h
  exact ⟨rfl, hx'⟩
abbrev boxP2 (p : Int × Int) : Obj := .cells #[.int .i64 p.1, .int .i64 p.2] 23 (0, 0)
theorem boxP2_cells {W : World} {b : Nat} {p : Int × Int} (h : W.heap[b]? = some (boxP2 p)) : (W.cell? ⟨b, 0, none⟩ = some (.int .i64 p.1) ∧ W.cell? ⟨b, 1, none⟩ = some (.int .i64 p.2)) ∧ W.frozen? ⟨b, 0, none⟩ = false ∧ W.frozen? ⟨b, 1, none⟩ = false := by
  simp [World.cell?, World.frozen?, h]

set_option maxRecDepth 1000000 in
set_option maxHeartbeats 64000000 in
theorem ends_l4 {Q0 : Exit → Act → World → Prop} (r : Round) (w W0 : World) (a : Option Addr) (c gs cs ga ca go bS : Nat) (h : EndsCtx r w W0 a c gs cs ga ca go bS) (a0 : List Int) (met0 : Bool) (own0 : List (Int × Int)) (su0 we0 : Int × Int) (bx : Nat) (fv lv : Value) (B : Nat) (c0 c2 c3 c4 c5 c6 c8 c9 c10 c11 c12 c13 c14 c15 c16 c21 c24 c26 c27 c28 c29 c30 c31 c32 c33 c34 c35 c36 c37 c38 c39 c40 c41 c42 c43 c44 c45 c46 c47 c48 c49 c50 c51 c52 c53 c54 c55 c56 c57 c58 c59 c60 c61 c62 c63 c64 c65 c66 c67 c68 c69 c70 c71 c72 c73 c74 c75 c76 c77 c78 c79 c80 c81 c82 c83 c84 c85 c86 c87 c88 c89 c90 c91 c92 c93 c94 c95 c96 c97 c98 c99 c100 c101 c102 c103 c104 c105 c106 c107 c108 c109 c110 c111 c112 c113 c114 c115 c116 c117 c118 c119 c120 c121 c122 c123 c124 c125 c126 c127 c128 c129 c130 c131 c132 c133 c134 c135 c136 c137 c138 c139 c140 c141 c142 c143 c144 c145 c146 c147 c148 c149 c150 c151 c152 c153 c154 c155 c156 c157 c158 c159 c160 c161 c162 c163 c164 c165 c166 c167 c168 c169 c170 c171 c172 c173 c174 c175 c176 c177 c178 c179 c180 c181 c182 c183 c184 c185 c186 c187 c188 c189 c190 c191 c192 c193 c194 c195 c196 c197 c198 c199 c200 c201 c202 c203 c204 c205 c206 c207 c208 c209 c210 c211 c212 c213 c214 c215 c216 c217 c218 c219 c220 c221 c222 c223 c224 c225 c226 c227 c228 c229 c230 c231 c232 c233 c234 c235 c236 c237 c238 c239 c240 c241 c242 c243 c244 c245 c246 c247 c248 c249 c250 c251 c252 c253 c254 c255 c256 c257 c258 c259 c260 c261 c262 c263 c264 c265 c266 c267 c268 c269 c270 c271 c272 c273 c274 c275 c276 c277 c278 c279 c280 c281 c282 c283 c284 c285 c286 c287 c288 c289 c290 c291 c292 c293 c294 c295 c296 c297 c298 c299 c300 c301 c302 c303 c304 c305 c306 c307 c308 c309 c310 c311 c312 c313 c314 c315 c316 c317 c318 c319 c320 c321 c322 c323 c324 c325 c326 : Value) (W : World) (ha0 : InBox (spansE r) a0) (hat : ∀ j y, a0[j]? = some y → W.cell? ⟨ga, j, none⟩ = some (.int .i64 y)) (hbr : W.heap[w.heap.size]? = some (.cells #[.int .i64 r.per, .int .i64 r.lo, .int .i64 r.hi, .int .i64 r.card, .int .i64 r.slack, .slice a r.houses.length c, .int .i64 r.all, .int .i64 r.off] 26 (0, 0))) (hxw : Ext w W) (hbx : W.heap[bx]? = some (boxX 0 fv lv)) (hb1 : bS + 1 < bx) (hfv : ∃ fa fc, fv = .slice fa r.houses.length fc) (hlv : ∃ fa fc, lv = .slice fa r.houses.length fc) (htv : ∀ W' xw, Touch (EndsN go bS bx) W W' → TruthAt W' (.agg #[.int .i64 xw, fv, lv]) (truthE r.houses.length xw a0)) (how : W.ownsRow B 23 2 (.slice (some ⟨go, 0, none⟩) r.houses.length r.houses.length) r.houses.length (own0.flatMap spanCells)) (hbs : W.heap[bS]? = some (boxP2 su0)) (hbw : W.heap[bS + 1]? = some (boxP2 we0)) (hacc : AccE r (SeenE r (rankE (spansE r) a0) r.lo) own0 su0 we0 met0) (hexit : ∀ (y2 y25 y26 y27 y28 y185 y186 y187 y188 y189 y190 y191 y192 y193 y194 y195 y196 y197 y198 y199 y200 y201 y202 y203 y204 y205 y206 y207 y208 y209 y210 y211 y212 y213 y214 y215 y216 y217 y218 y219 y220 y221 y222 y223 y224 y225 y226 y227 y228 y229 y230 y231 y232 y233 y234 y235 y236 y237 y238 y239 y240 y241 : Value) (own : List (Int × Int)) (su we : Int × Int) (met : Bool) (W' : World), AccE r (SeenE r (rankE (spansE r) a0) (r.hi + 1)) own su we met → W'.ownsRow B 23 2 (.slice (some ⟨go, 0, none⟩) r.houses.length r.houses.length) r.houses.length (own.flatMap spanCells) → W'.heap[bS]? = some (boxP2 su) → W'.heap[bS + 1]? = some (boxP2 we) → Touch (EndsN go bS bx) W W' → Q0 (.exit 8) ⟨#[c0, .pointer (some ⟨w.heap.size, 0, none⟩), y2, c3, c4, c5, c6, .slice (some ⟨ga, 0, none⟩) (2 * r.houses.length) ca, c8, c9, c10, c11, c12, c13, c14, c15, c16, .slice (some ⟨go, 0, none⟩) r.houses.length r.houses.length, .pointer (some ⟨bS, 0, none⟩), .pointer (some ⟨bS + 1, 0, none⟩), .bool met, c21, .pointer (some ⟨bx, 0, none⟩), .int .i64 (sumE r a0 r.houses.length), c24, y25, y26, y27, y28, c29, c30, c31, c32, c33, c34, c35, c36, c37, c38, c39, c40, c41, c42, c43, c44, c45, c46, c47, c48, c49, c50, c51, c52, c53, c54, c55, c56, c57, c58, c59, c60, c61, c62, c63, c64, c65, c66, c67, c68, c69, c70, c71, c72, c73, c74, c75, c76, c77, c78, c79, c80, c81, c82, c83, c84, c85, c86, c87, c88, c89, c90, c91, c92, c93, c94, c95, c96, c97, c98, c99, c100, c101, c102, c103, c104, c105, c106, c107, c108, c109, c110, c111, c112, c113, c114, c115, c116, c117, c118, c119, c120, c121, c122, c123, c124, c125, c126, c127, c128, c129, c130, c131, c132, c133, c134, c135, c136, c137, c138, c139, c140, c141, c142, c143, c144, c145, c146, c147, c148, c149, c150, c151, c152, c153, c154, c155, c156, c157, c158, c159, c160, c161, c162, c163, c164, c165, c166, c167, c168, c169, c170, c171, c172, c173, c174, c175, c176, c177, c178, c179, c180, c181, c182, c183, c184, y185, y186, y187, y188, y189, y190, y191, y192, y193, y194, y195, y196, y197, y198, y199, y200, y201, y202, y203, y204, y205, y206, y207, y208, y209, y210, y211, y212, y213, y214, y215, y216, y217, y218, y219, y220, y221, y222, y223, y224, y225, y226, y227, y228, y229, y230, y231, y232, y233, y234, y235, y236, y237, y238, y239, y240, y241, c242, c243, c244, c245, c246, c247, c248, c249, c250, c251, c252, c253, c254, c255, c256, c257, c258, c259, c260, c261, c262, c263, c264, c265, c266, c267, c268, c269, c270, c271, c272, c273, c274, c275, c276, c277, c278, c279, c280, c281, c282, c283, c284, c285, c286, c287, c288, c289, c290, c291, c292, c293, c294, c295, c296, c297, c298, c299, c300, c301, c302, c303, c304, c305, c306, c307, c308, c309, c310, c311, c312, c313, c314, c315, c316, c317, c318, c319, c320, c321, c322, c323, c324, c325, c326], []⟩ W') : Code.wp Tryz.prog (Code.loop endsB4) Q0 ⟨#[c0, .pointer (some ⟨w.heap.size, 0, none⟩), c2, c3, c4, c5, c6, .slice (some ⟨ga, 0, none⟩) (2 * r.houses.length) ca, c8, c9, c10, c11, c12, c13, c14, c15, c16, .slice (some ⟨go, 0, none⟩) r.houses.length r.houses.length, .pointer (some ⟨bS, 0, none⟩), .pointer (some ⟨bS + 1, 0, none⟩), .bool met0, c21, .pointer (some ⟨bx, 0, none⟩), .int .i64 (sumE r a0 r.houses.length), c24, .int .i64 r.lo, c26, c27, c28, c29, c30, c31, c32, c33, c34, c35, c36, c37, c38, c39, c40, c41, c42, c43, c44, c45, c46, c47, c48, c49, c50, c51, c52, c53, c54, c55, c56, c57, c58, c59, c60, c61, c62, c63, c64, c65, c66, c67, c68, c69, c70, c71, c72, c73, c74, c75, c76, c77, c78, c79, c80, c81, c82, c83, c84, c85, c86, c87, c88, c89, c90, c91, c92, c93, c94, c95, c96, c97, c98, c99, c100, c101, c102, c103, c104, c105, c106, c107, c108, c109, c110, c111, c112, c113, c114, c115, c116, c117, c118, c119, c120, c121, c122, c123, c124, c125, c126, c127, c128, c129, c130, c131, c132, c133, c134, c135, c136, c137, c138, c139, c140, c141, c142, c143, c144, c145, c146, c147, c148, c149, c150, c151, c152, c153, c154, c155, c156, c157, c158, c159, c160, c161, c162, c163, c164, c165, c166, c167, c168, c169, c170, c171, c172, c173, c174, c175, c176, c177, c178, c179, c180, c181, c182, c183, c184, c185, c186, c187, c188, c189, c190, c191, c192, c193, c194, c195, c196, c197, c198, c199, c200, c201, c202, c203, c204, c205, c206, c207, c208, c209, c210, c211, c212, c213, c214, c215, c216, c217, c218, c219, c220, c221, c222, c223, c224, c225, c226, c227, c228, c229, c230, c231, c232, c233, c234, c235, c236, c237, c238, c239, c240, c241, c242, c243, c244, c245, c246, c247, c248, c249, c250, c251, c252, c253, c254, c255, c256, c257, c258, c259, c260, c261, c262, c263, c264, c265, c266, c267, c268, c269, c270, c271, c272, c273, c274, c275, c276, c277, c278, c279, c280, c281, c282, c283, c284, c285, c286, c287, c288, c289, c290, c291, c292, c293, c294, c295, c296, c297, c298, c299, c300, c301, c302, c303, c304, c305, c306, c307, c308, c309, c310, c311, c312, c313, c314, c315, c316, c317, c318, c319, c320, c321, c322, c323, c324, c325, c326], []⟩ W := by
  have hctx := h
  obtain ⟨hB, hb, hra, -, -, hsp, o1, o2, o3, o4, o5⟩ := h
  obtain ⟨fa, fc, rfl⟩ := hfv
  obtain ⟨la, lc, rfl⟩ := hlv
  have HE := Lib.hid hexit
  have HBOX := Lib.hid ha0
  have HAT := Lib.hid hat
  have HTV := Lib.hid htv
  have HBR := Lib.hid hbr
  have HXW := Lib.hid hxw
  have HRA := Lib.hid hra
  have HB1 := Lib.hid hb
  have HCT := Lib.hid hctx
  have hl1 := hB.l1
  have hl2 := hB.l2
  have hl3 := hB.l3
  have hn1 := hB.h1
  have hn2 := hB.h2
  have HBB := Lib.hid hB
  clear hexit hsp hra hxw hbr hb hat htv hctx
  have hmix : Tryz.prog.follows .mixedOrders = true := by kernel_rfl
  conv => arg 2; arg 1; whnf
  conv => arg 4; zeta
  go_loopw [20, 25] (fun mv iv wr => ∃ (wc : Int) (own : List (Int × Int)) (su we : Int × Int) (met : Bool) (xw : Int), r.lo ≤ wc ∧ wc ≤ r.hi + 1 ∧ iv = .int .i64 wc ∧ mv = .bool met ∧ AccE r (SeenE r (rankE (spansE r) a0) wc) own su we met ∧ wr.ownsRow B 23 2 (.slice (some ⟨go, 0, none⟩) r.houses.length r.houses.length) r.houses.length (own.flatMap spanCells) ∧ wr.heap[bS]? = some (boxP2 su) ∧ wr.heap[bS + 1]? = some (boxP2 we) ∧ wr.heap[bx]? = some (boxX xw (.slice fa r.houses.length fc) (.slice la r.houses.length lc)) ∧ Touch (EndsN go bS bx) W wr) (fun _ iv _ => (r.hi + 1 - intOf iv).toNat)
  case atStart => exact ⟨r.lo, own0, su0, we0, met0, 0, Int.le_refl _, by omega, rfl, rfl, hacc, how, hbs, hbw, hbx, Touch.refl _ _⟩
  case round =>
    clear hacc how hbs hbw hbx
    obtain ⟨wc, own, su, we, met, xw, hw1, hw2, rfl, rfl, hacc, how, hbs, hbw, hbx, ht⟩ := hrel
    have HACC := Lib.hid hacc
    have HOW := Lib.hid how
    have HBS := Lib.hid hbs
    have HBW := Lib.hid hbw
    have HBX := Lib.hid hbx
    have HT := Lib.hid ht
    have hbrr := ht.keep _ _ HBR.out (by unfold EndsN; omega)
    obtain ⟨z0, z1, z2, z3, z4, z5, z6, z7⟩ := round_cells hbrr
    by_cases hlt : wc ≤ r.hi
    · have x2 : decide (wc ≤ r.hi) = true := by simpa using hlt
      obtain ⟨⟨e0, e1, e2⟩, f0, -, -⟩ := boxX_cells hbx
      have hb1' := setCell_block (i := 0) (v := .int .i64 wc) hbx
      have ht1 := ht.trans (Touch.setCell (M := EndsN go bS bx) (a := ⟨bx, 0, none⟩) (.int .i64 wc) (.inr (.inr (.inr rfl))))
      have hbr1 := ht1.keep _ _ HBR.out (by unfold EndsN; omega)
      obtain ⟨k0, k1, k2, k3, k4, k5, k6, k7⟩ := round_cells hbr1
      obtain ⟨⟨g0, g1, g2⟩, -, -, -⟩ := boxX_cells (show (wr.setCell ⟨bx, 0, none⟩ (.int .i64 wc)).heap[bx]? = some (boxX wc (.slice fa r.houses.length fc) (.slice la r.houses.length lc)) from hb1')
      have HTR := Lib.hid (HTV.out _ wc ht1)
      have hxw1 : Ext w (wr.setCell ⟨bx, 0, none⟩ (.int .i64 wc)) := Touch.ext HXW.out ht1 (fun k hk => by unfold EndsN at hk; omega)
      have HFI := Lib.hid (fitsE_any _ _ r wc a0 (wr.setCell ⟨bx, 0, none⟩ (.int .i64 wc)) HB1.out (HRA.out.ext hxw1) HTR.out)
      have HP1 := Lib.hid (And.intro hb1' (And.intro ht1 hbr1))
      have hbs1 := (Touch.setCell (M := (· = bx)) (A := wr) (a := ⟨bx, 0, none⟩) (.int .i64 wc) rfl).keep _ _ hbs (by first | omega | (simp only; omega))
      have hbw1 := (Touch.setCell (M := (· = bx)) (A := wr) (a := ⟨bx, 0, none⟩) (.int .i64 wc) rfl).keep _ _ hbw (by first | omega | (simp only; omega))
      have how1 := ownsRow_setCell_other how (a := ⟨bx, 0, none⟩) (by simp [Value.ownBlock]; omega) (.int .i64 wc)
      have HP2 := Lib.hid (And.intro hbs1 (And.intro hbw1 how1))
      have E9 : IntKind.i64.wrap (wc + 1) = wc + 1 := IntWalk.i64_in _ (by omega)
      clear hacc how hbs hbw hbx ht hbrr hb1' ht1 hbr1 hxw1 hbs1 hbw1 how1
      cases hf : fitsB r (truthE r.houses.length wc a0) (-1) with
      | false =>
        have HNT : Hid (¬ TriedE r a0 wc) := fun h => by have := h.2.2; rw [hf] at this; cases this
        have HAN := Lib.hid (HACC.out.congr (fun a w => seen_skip HBOX.out HNT.out a w))
        rw [hf] at HFI
        clear hf
        go_wp2_with (go_at_call 15; refine HFI.out.mono ?_; rintro e w2 ⟨rfl, hx2⟩)
        exact ⟨⟨wc + 1, own, su, we, met, wc, by omega, by omega, rfl, rfl, HAN.out, owns_ext HP2.out.2.2 hx2, (hx2.block (lt_of_heap HP2.out.1)).trans HP2.out.1, (hx2.block (lt_of_heap HP2.out.2.1)).trans HP2.out.2.1, (hx2.block (lt_of_heap HP1.out.1)).trans HP1.out.1, HP1.out.2.1.trans (Touch.of_ext hx2)⟩, by simp [intOf] <;> omega⟩
      | true =>
        have HTE : Hid (TriedE r a0 wc) := ⟨HBOX.out, ⟨hw1, hlt⟩, hf⟩
        rw [hf] at HFI
        clear hf
        go_wp2_with (go_at_call 15; refine HFI.out.mono ?_; rintro e w2 ⟨rfl, hx2⟩)
        rename_i K hK
        have HK := Lib.hid hK
        have HAT2 := Lib.hid (fun j y (hy : a0[j]? = some y) => hx2.cell (HP1.out.2.1.cell (HAT.out j y hy) (by unfold EndsN; simp only; omega)))
        have HBR2 := Lib.hid ((hx2.block (lt_of_heap HP1.out.2.2)).trans HP1.out.2.2)
        clear hK k0 k1 k2 k3 k4 k5 k6 k7 g0 g1 g2 e0 e1 e2 f0 z0 z1 z2 z3 z4 z5 z6 z7
        refine ends_l5 r w W0 a c gs cs ga ca go bS HCT.out a0 met own B _ _ _ _ _ _ _ _ _ _ _ _ _ _ _ _ _ _ _ _ _ _ _ _ _ _ _ _ _ _ _ _ _ _ _ _ _ _ _ _ _ _ _ _ _ _ _ _ _ _ _ _ _ _ _ _ _ _ _ _ _ _ _ _ _ _ _ _ _ _ _ _ _ _ _ _ _ _ _ _ _ _ _ _ _ _ _ _ _ _ _ _ _ _ _ _ _ _ _ _ _ _ _ _ _ _ _ _ _ _ _ _ _ _ _ _ _ _ _ _ _ _ _ _ _ _ _ _ _ _ _ _ _ _ _ _ _ _ _ _ _ _ _ _ _ _ _ _ _ _ _ _ _ _ _ _ _ _ _ _ _ _ _ _ _ _ _ _ _ _ _ _ _ _ _ _ _ _ _ _ _ _ _ _ _ _ _ _ _ _ _ _ _ _ _ _ _ _ _ _ _ _ _ _ _ _ _ _ _ _ _ _ _ _ _ _ _ _ _ _ _ _ _ _ _ _ _ _ _ _ _ _ _ _ _ _ _ _ _ _ _ _ _ _ _ _ _ _ _ _ _ _ _ _ _ _ _ _ _ _ _ _ _ _ _ _ _ _ _ _ _ _ _ _ _ _ _ _ _ _ _ _ _ _ _ _ _ _ _ _ _ _ _ _ _ _ _ _ _ _ _ _ _ _ _ _ _ _ _ _ _ _ _ _ _ _ _ _ _ _ _ _ w2 HBOX.out HACC.out.len HAT2.out (owns_ext HP2.out.2.2 hx2) HBR2.out (fun y28 y204 y205 y206 y207 y208 y209 y210 y211 y212 y213 y214 y215 y216 y217 y218 y219 y220 y221 y222 y223 y224 y225 y226 y227 y228 y229 y230 y231 y232 y233 W5 hown5 ht5 => ?_)
        refine HK.out _ _ ?_
        have HB5 : Hid (W5.heap[bS]? = some (boxP2 su) ∧ W5.heap[bS + 1]? = some (boxP2 we)) := ⟨ht5.keep _ _ ((hx2.block (lt_of_heap HP2.out.1)).trans HP2.out.1) (by first | omega | (simp only; omega)), ht5.keep _ _ ((hx2.block (lt_of_heap HP2.out.2.1)).trans HP2.out.2.1) (by first | omega | (simp only; omega))⟩
        have HX5 : Hid (W5.heap[bx]? = some (boxX wc (.slice fa r.houses.length fc) (.slice la r.houses.length lc))) := ht5.keep _ _ ((hx2.block (lt_of_heap HP1.out.1)).trans HP1.out.1) (by first | omega | (simp only; omega))
        have HT5 : Hid (Touch (EndsN go bS bx) W W5) := (HP1.out.2.1.trans (Touch.of_ext hx2)).trans (ht5.mono (fun k hk => .inl hk))
        have HO5 := Lib.hid hown5
        have HAY := Lib.hid (HACC.out.yes (fun a w => seen_step HBOX.out HTE.out a w))
        rw [HACC.out.len] at HAY
        obtain ⟨⟨v0, v1⟩, -, -⟩ := boxP2_cells HB5.out.1
        clear hown5 ht5 HK
        go_upto_region 45 with fail
        refine wp_region_noPanic ?_
        refine wp_region_any (by kernel_rfl) (wpAny_of_two (S := (fun _ : World => True)) (T := (fun w' : World => w'.heap[bS + 1]? = some (boxP2 we))) (zs := [1, 2, 5, 6, 9, 10]) _ _ _ _ ?_)
        change wpTwo _ _ _ _ _ _ _ _ _ _ W5.drew
        have hS := trivial
        have hT0 := HB5.out.2
        refine two_takeS (i := 1) (d := some 235) (v := ?_) (by kernel_rfl) (by rfl) (by kernel_rfl) (by kernel_rfl) (by kernel_rfl) (fun _ _ _ h => h) (fun o ho => ?_) hS ?_
        rotate_left
        · simp only [List.getElem?_toArray, List.getElem?_cons_zero, List.getElem?_cons_succ, Option.some.injEq] at ho
          subst ho
          refine ⟨by rfl, fun w' hSw => ?_⟩
          (try dsimp only at hSw)
          go_simp
          try with_reducible rfl
        try simp only [Act.put, List.setIfInBounds_toArray, List.set_cons_zero, List.set_cons_succ]
        refine two_takeS (i := 2) (d := some 236) (v := ?_) (by kernel_rfl) (by rfl) (by kernel_rfl) (by kernel_rfl) (by kernel_rfl) (fun _ _ _ h => h) (fun o ho => ?_) hS ?_
        rotate_left
        · simp only [List.getElem?_toArray, List.getElem?_cons_zero, List.getElem?_cons_succ, Option.some.injEq] at ho
          subst ho
          refine ⟨by rfl, fun w' hSw => ?_⟩
          (try dsimp only at hSw)
          go_simp
          try with_reducible rfl
        try simp only [Act.put, List.setIfInBounds_toArray, List.set_cons_zero, List.set_cons_succ]
        refine two_takeS (i := 5) (d := some 239) (v := ?_) (by kernel_rfl) (by rfl) (by kernel_rfl) (by kernel_rfl) (by kernel_rfl) (fun _ _ _ h => h) (fun o ho => ?_) hS ?_
        rotate_left
        · simp only [List.getElem?_toArray, List.getElem?_cons_zero, List.getElem?_cons_succ, Option.some.injEq] at ho
          subst ho
          refine ⟨by rfl, fun w' hSw => ?_⟩
          (try dsimp only at hSw)
          go_simp
          try with_reducible rfl
        try simp only [Act.put, List.setIfInBounds_toArray, List.set_cons_zero, List.set_cons_succ]
        refine two_takeS (i := 6) (d := some 240) (v := ?_) (by kernel_rfl) (by rfl) (by kernel_rfl) (by kernel_rfl) (by kernel_rfl) (fun _ _ _ h => h) (fun o ho => ?_) hS ?_
        rotate_left
        · simp only [List.getElem?_toArray, List.getElem?_cons_zero, List.getElem?_cons_succ, Option.some.injEq] at ho
          subst ho
          refine ⟨by rfl, fun w' hSw => ?_⟩
          (try dsimp only at hSw)
          go_simp
          try with_reducible rfl
        try simp only [Act.put, List.setIfInBounds_toArray, List.set_cons_zero, List.set_cons_succ]
        refine two_takeT (i := 4) (d := some 238) (v := ?_) (by kernel_rfl) (by kernel_rfl) (by kernel_rfl) (by kernel_rfl) (by kernel_rfl) (fun _ _ _ h => h) (fun o ho => ?_) hS hT0 ?_
        rotate_left
        · simp only [List.getElem?_toArray, List.getElem?_cons_zero, List.getElem?_cons_succ, Option.some.injEq] at ho
          subst ho
          refine ⟨by rfl, fun w' hSw => ?_⟩
          obtain ⟨⟨e1, e2⟩, -, -⟩ := boxP2_cells hSw
          clear hSw
          go_simp
          try with_reducible rfl
        try simp only [Act.put, List.setIfInBounds_toArray, List.set_cons_zero, List.set_cons_succ]
        refine two_ready (rs := [0]) (by kernel_rfl) (by simp) ?_
        refine two_step (i := 0) (by kernel_rfl) (fun o ho K' hK => ?_) ?_
        · simp only [List.getElem?_toArray, List.getElem?_cons_zero, Option.some.injEq] at ho
          subst ho
          go_simp
          refine hK.out _ _ ?_ ?_ (fun hS hT => ?_)
          · trivial
          · exact fun _ => HB5.out.2
          clear hK K' hT
          try simp only [Act.put, List.setIfInBounds_toArray, List.set_cons_zero, List.set_cons_succ]
          refine two_ready (rs := [3]) (by kernel_rfl) (by simp) ?_
          refine two_step (i := 3) (by kernel_rfl) (fun o ho K' hK => ?_) ?_
          · simp only [List.getElem?_toArray, List.getElem?_cons_zero, List.getElem?_cons_succ, Option.some.injEq] at ho
            subst ho
            go_simp
            go_at_call 16
            refine (ewider_any su _ met _).mono ?_
            rintro e w6 ⟨rfl, hx6⟩
            have hE6 := (Ext.refl W5).drew.trans hx6
            have H6 := Lib.hid (And.intro ((hE6.block (lt_of_heap HB5.out.1)).trans HB5.out.1) ((hE6.block (lt_of_heap HB5.out.2)).trans HB5.out.2))
            refine hK.out _ _ ?_ ?_ (fun hS hT => ?_)
            · trivial
            · exact fun _ => H6.out.2
            clear hK K' hT
            try simp only [Act.put, List.setIfInBounds_toArray, List.set_cons_zero, List.set_cons_succ]
            refine two_ready (rs := [7]) (by kernel_rfl) (by simp) ?_
            refine two_step (i := 7) (by kernel_rfl) (fun o ho K' hK => ?_) ?_
            · simp only [List.getElem?_toArray, List.getElem?_cons_zero, List.getElem?_cons_succ, Option.some.injEq] at ho
              subst ho
              go_simp
              go_at_call 16
              refine (ewider_any we _ met _).mono ?_
              rintro e w7 ⟨rfl, hx7⟩
              have hE7 := hE6.trans hx7
              have H7 := Lib.hid (And.intro ((hx7.block (lt_of_heap H6.out.1)).trans H6.out.1) ((hx7.block (lt_of_heap H6.out.2)).trans H6.out.2))
              obtain ⟨⟨-, q1⟩, q2, q3⟩ := boxP2_cells H7.out.1
              have q0 := (boxP2_cells H7.out.1).1.1
              obtain ⟨⟨r0, r1⟩, r2, r3⟩ := boxP2_cells H7.out.2
              refine hK.out _ _ ?_ ?_ (fun hS hT => ?_)
              · trivial
              · exact fun _ => H7.out.2
              clear hK K' hT
              try simp only [Act.put, List.setIfInBounds_toArray, List.set_cons_zero, List.set_cons_succ]
              refine two_ready (rs := [8]) (by kernel_rfl) (by simp) ?_
              refine two_step (i := 8) (by kernel_rfl) (fun o ho K' hK => ?_) ?_
              · simp only [List.getElem?_toArray, List.getElem?_cons_zero, List.getElem?_cons_succ, Option.some.injEq] at ho
                subst ho
                go_simp
                refine hK.out _ _ ?_ ?_ (fun hS hT => ?_)
                · trivial
                · exact fun _ => ((Touch.setCell (M := (· = bS)) (a := ⟨bS, 0, none⟩) _ rfl).trans (Touch.setCell (M := (· = bS)) (a := ⟨bS, 1, none⟩) _ rfl)).keep _ _ H7.out.2 (by first | omega | (simp only; omega))
                clear hK K' hT
                try simp only [Act.put, List.setIfInBounds_toArray, List.set_cons_zero, List.set_cons_succ]
                refine two_ready (rs := [9]) (by kernel_rfl) (by simp) ?_
                refine two_step (i := 9) (by kernel_rfl) (fun o ho K' hK => ?_) ?_
                · simp only [List.getElem?_toArray, List.getElem?_cons_zero, List.getElem?_cons_succ, Option.some.injEq] at ho
                  subst ho
                  go_simp
                  refine hK.out _ _ ?_ ?_ (fun hS hT => ?_)
                  · trivial
                  · intro hc; cases hc
                  clear hK K' hT
                  try simp only [Act.put, List.setIfInBounds_toArray, List.set_cons_zero, List.set_cons_succ]
                  refine two_ready (rs := [10]) (by kernel_rfl) (by simp) ?_
                  refine two_step (i := 10) (by kernel_rfl) (fun o ho K' hK => ?_) ?_
                  · simp only [List.getElem?_toArray, List.getElem?_cons_zero, List.getElem?_cons_succ, Option.some.injEq] at ho
                    subst ho
                    go_simp
                    refine hK.out _ _ ?_ ?_ (fun hS hT => ?_)
                    · trivial
                    · intro hc; cases hc
                    clear hK K' hT
                    try simp only [Act.put, List.setIfInBounds_toArray, List.set_cons_zero, List.set_cons_succ]
                    refine two_done (by kernel_rfl) ?_ _
                    refine NoPanic.normal ?_
                    try simp only [List.setIfInBounds_toArray, List.set_cons_zero, List.set_cons_succ]
                    have hKT : Touch (EndsN go bS bx) W ((((w7.setCell ⟨bS, 0, none⟩ (.int .i64 (widerP su (sumE r a0 r.houses.length) met).1)).setCell ⟨bS, 1, none⟩ (.int .i64 (widerP su (sumE r a0 r.houses.length) met).2)).setCell ⟨bS + 1, 0, none⟩ (.int .i64 (widerP we wc met).1)).setCell ⟨bS + 1, 1, none⟩ (.int .i64 (widerP we wc met).2)) := (((((HT5.out.trans (Touch.of_ext hE7)).trans (Touch.setCell (M := EndsN go bS bx) (a := ⟨bS, 0, none⟩) _ (.inr (.inl rfl)))).trans (Touch.setCell (M := EndsN go bS bx) (a := ⟨bS, 1, none⟩) _ (.inr (.inl rfl)))).trans (Touch.setCell (M := EndsN go bS bx) (a := ⟨bS + 1, 0, none⟩) _ (.inr (.inr (.inl rfl))))).trans (Touch.setCell (M := EndsN go bS bx) (a := ⟨bS + 1, 1, none⟩) _ (.inr (.inr (.inl rfl)))))
                    have hKS := ((Touch.setCell (M := (· = bS + 1)) (A := (w7.setCell ⟨bS, 0, none⟩ (.int .i64 (widerP su (sumE r a0 r.houses.length) met).1)).setCell ⟨bS, 1, none⟩ (.int .i64 (widerP su (sumE r a0 r.houses.length) met).2)) (a := ⟨bS + 1, 0, none⟩) (.int .i64 (widerP we wc met).1) rfl).trans (Touch.setCell (M := (· = bS + 1)) (a := ⟨bS + 1, 1, none⟩) (.int .i64 (widerP we wc met).2) rfl)).keep bS _ (setCell_block (i := 1) (v := .int .i64 (widerP su (sumE r a0 r.houses.length) met).2) (setCell_block (i := 0) (v := .int .i64 (widerP su (sumE r a0 r.houses.length) met).1) H7.out.1)) (by first | omega | (simp only; omega))
                    have hKW := setCell_block (i := 1) (v := .int .i64 (widerP we wc met).2) (setCell_block (i := 0) (v := .int .i64 (widerP we wc met).1) (((Touch.setCell (M := (· = bS)) (A := w7) (a := ⟨bS, 0, none⟩) (.int .i64 (widerP su (sumE r a0 r.houses.length) met).1) rfl).trans (Touch.setCell (M := (· = bS)) (a := ⟨bS, 1, none⟩) (.int .i64 (widerP su (sumE r a0 r.houses.length) met).2) rfl)).keep (bS + 1) _ H7.out.2 (by first | omega | (simp only; omega))))
                    have hKO := ownsRow_setCell_other (ownsRow_setCell_other (ownsRow_setCell_other (ownsRow_setCell_other (owns_ext HO5.out hE7) (a := ⟨bS, 0, none⟩) (by simp [Value.ownBlock]; omega) (.int .i64 (widerP su (sumE r a0 r.houses.length) met).1)) (a := ⟨bS, 1, none⟩) (by simp [Value.ownBlock]; omega) (.int .i64 (widerP su (sumE r a0 r.houses.length) met).2)) (a := ⟨bS + 1, 0, none⟩) (by simp [Value.ownBlock]; omega) (.int .i64 (widerP we wc met).1)) (a := ⟨bS + 1, 1, none⟩) (by simp [Value.ownBlock]; omega) (.int .i64 (widerP we wc met).2)
                    have hKX := (((Touch.setCell (M := (fun k => k = bS ∨ k = bS + 1)) (A := w7) (a := ⟨bS, 0, none⟩) (.int .i64 (widerP su (sumE r a0 r.houses.length) met).1) (.inl rfl)).trans (Touch.setCell (M := (fun k => k = bS ∨ k = bS + 1)) (a := ⟨bS, 1, none⟩) (.int .i64 (widerP su (sumE r a0 r.houses.length) met).2) (.inl rfl))).trans (Touch.setCell (M := (fun k => k = bS ∨ k = bS + 1)) (a := ⟨bS + 1, 0, none⟩) (.int .i64 (widerP we wc met).1) (.inr rfl))).trans (Touch.setCell (M := (fun k => k = bS ∨ k = bS + 1)) (a := ⟨bS + 1, 1, none⟩) (.int .i64 (widerP we wc met).2) (.inr rfl)) |>.keep bx _ ((hE7.block (lt_of_heap HX5.out)).trans HX5.out) (by first | omega | (simp only; omega))
                    have HFF := Lib.hid (And.intro hKT (And.intro hKS (And.intro hKW (And.intro hKO hKX))))
                    clear hKT hKS hKW hKO hKX q0 q1 q2 q3 r0 r1 r2 r3 hT0 hS
                    go_wp2
                    exact ⟨⟨wc + 1, _, _, _, true, wc, by omega, by omega, rfl, rfl, HAY.out, HFF.out.2.2.2.1, HFF.out.2.1, HFF.out.2.2.1, HFF.out.2.2.2.2, HFF.out.1⟩, by simp [intOf] <;> omega⟩
                  exact AllTwo.nil
                exact AllTwo.nil
              exact AllTwo.nil
            exact AllTwo.nil
          exact AllTwo.nil
        exact AllTwo.nil
    · have hwe : wc = r.hi + 1 := by omega
      subst hwe
      have x2 : decide (r.hi + 1 ≤ r.hi) = false := by simp; omega
      clear hacc how hbs hbw hbx ht
      go_wp2
      exact HE.out _ _ _ _ _ _ _ _ _ _ _ _ _ _ _ _ _ _ _ _ _ _ _ _ _ _ _ _ _ _ _ _ _ _ _ _ _ _ _ _ _ _ _ _ _ _ _ _ _ _ _ _ _ _ _ _ _ _ _ _ _ _ own su we met wr HACC.out HOW.out HBS.out HBW.out HT.out
end Go.Proofs.YtbeophjdiddomaaGreatDoor
