/- The reference's Print: the text of a round. -/
import Derived.Test.YtbeophjdiddomaaGreatDoorRdec
import Derived.Test.YtbeophjdiddomaaGreatDoorSearchr
namespace Go.Proofs.YtbeophjdiddomaaGreatDoor
open Go.RowKit

theorem ints_new2 (W : World) (x y : Int) : IntsAt (W.alloc (.cells #[.int .i64 x, .int .i64 y] 3)) (.slice (some ⟨W.heap.size, 0, none⟩) 2 2) [x, y] :=
  RowAt.new W #[.int .i64 x, .int .i64 y] 3 2 2 (Nat.le_refl _) (by unfold maxLen; omega)
theorem ints_new4 (W : World) (x y z u : Int) : IntsAt (W.alloc (.cells #[.int .i64 x, .int .i64 y, .int .i64 z, .int .i64 u] 3)) (.slice (some ⟨W.heap.size, 0, none⟩) 4 4) [x, y, z, u] :=
  RowAt.new W #[.int .i64 x, .int .i64 y, .int .i64 z, .int .i64 u] 3 4 4 (Nat.le_refl _) (by unfold maxLen; omega)
theorem ints_new6 (W : World) (h : House) : IntsAt (W.alloc (.cells #[.int .i64 h.out, .int .i64 h.cards, .int .i64 h.full, .int .i64 h.loose, .int .i64 h.miss, .int .i64 h.weighed] 3)) (.slice (some ⟨W.heap.size, 0, none⟩) 6 6) h.nums :=
  RowAt.new W #[.int .i64 h.out, .int .i64 h.cards, .int .i64 h.full, .int .i64 h.loose, .int .i64 h.miss, .int .i64 h.weighed] 3 6 6 (Nat.le_refl _) (by unfold maxLen; omega)
theorem ints_at2 (W : World) (k : Nat) (x y : Int) (hk : k = W.heap.size) : IntsAt (W.alloc (.cells #[.int .i64 x, .int .i64 y] 3)) (.slice (some ⟨k, 0, none⟩) 2 2) [x, y] := by
  subst hk; exact ints_new2 W x y
theorem ints_at6 (W : World) (k : Nat) (h : House) (hk : k = W.heap.size) : IntsAt (W.alloc (.cells #[.int .i64 h.out, .int .i64 h.cards, .int .i64 h.full, .int .i64 h.loose, .int .i64 h.miss, .int .i64 h.weighed] 3)) (.slice (some ⟨k, 0, none⟩) 6 6) h.nums := by
  subst hk; exact ints_new6 W h
theorem rend_str (J a b c : List UInt8) : Value.string (((((({ data := J.toArray } : ByteArray) ++ ({ data := #[101, 110, 100, 32] } : ByteArray)) ++ ({ data := a.toArray } : ByteArray)) ++ ({ data := b.toArray } : ByteArray)) ++ ({ data := c.toArray } : ByteArray)) ++ ({ data := #[10] } : ByteArray)) = strV (J ++ ([101, 110, 100, 32] ++ (a ++ (b ++ (c ++ [10]))))) := by
  rw [show (({ data := #[101, 110, 100, 32] } : ByteArray)) = { data := ([101, 110, 100, 32] : List UInt8).toArray } from rfl, show (({ data := #[10] } : ByteArray)) = { data := ([10] : List UInt8).toArray } from rfl, ba_app, ba_app, ba_app, ba_app, ba_app]
  simp
theorem rdown_str (J l : List UInt8) : Value.string ((({ data := J.toArray } : ByteArray) ++ ({ data := l.toArray } : ByteArray)) ++ ({ data := #[10] } : ByteArray)) = strV (J ++ (l ++ [10])) := by
  rw [show (({ data := #[10] } : ByteArray)) = { data := ([10] : List UInt8).toArray } from rfl, ba_app, ba_app]
  simp
theorem down_len {L : List (List UInt8)} (h : ∀ l, l ∈ L → l.length ≤ 200) : (downL L).length ≤ 201 * L.length := by
  induction L with
  | nil => simp [downL]
  | cons x L ih =>
    have h1 := h x (by simp)
    have h2 := ih (fun l hl => h l (by simp [hl]))
    have : downL (x :: L) = x ++ [10] ++ downL L := by simp [downL]
    rw [this, List.length_append, List.length_append, List.length_singleton, List.length_cons]; omega
set_option maxRecDepth 100000 in
set_option maxHeartbeats 16000000 in
theorem rprint_any (v : Value) (r : Round) (w : World) (hr : RoundAt w v r) (hB : TextB r) :
    Calls Tryz.prog 20 #[v] w fun e w' => e = .returned (strV (textT r)) ∧ Ext w w' := by
  obtain ⟨hv, rfl, hh⟩ := hr
  obtain ⟨a, c, rfl, h1, h2, h3⟩ := hh.open
  have HH := Lib.hid h3
  have HL1 := Lib.hid (fun w1 v (hv : IntsAt w1 v [r.per, (r.houses.length : Int)]) => rline_any wRound v _ w1 hv hB.hd (by simp) (by decide))
  have HL2 := Lib.hid (fun w1 v (hv : IntsAt w1 v [r.lo, r.hi, r.card, r.slack]) => rline_any wWeigh v _ w1 hv hB.sc (by simp) (by decide))
  have HL3 := Lib.hid (fun h (hm : h ∈ r.houses) w1 v (hv : IntsAt w1 v h.nums) => rline_any wHouse v _ w1 hv (hB.lt h hm) (by simp [House.nums]) (by decide))
  have HL4 := Lib.hid (fun w1 v (hv : IntsAt w1 v [r.all, r.off]) => rline_any wAll v _ w1 hv hB.ft (by simp) (by decide))
  unfold wRound at HL1; unfold wWeigh at HL2; unfold wHouse at HL3; unfold wAll at HL4
  unfold Round.cells at *
  clear h3 hh
  have hmix : Tryz.prog.follows .mixedOrders = true := by kernel_rfl
  have hx0 : Ext w (w.alloc (.cells #[.int .i64 r.per, .int .i64 r.lo, .int .i64 r.hi, .int .i64 r.card, .int .i64 r.slack, .slice a r.houses.length c, .int .i64 r.all, .int .i64 r.off] 26)) := (Ext.refl w).alloc _
  have hb0 := World.alloc_heap_new w (.cells #[.int .i64 r.per, .int .i64 r.lo, .int .i64 r.hi, .int .i64 r.card, .int .i64 r.slack, .slice a r.houses.length c, .int .i64 r.all, .int .i64 r.off] 26)
  have HBX := Lib.hid (fun w1 (hx : Ext (w.alloc (.cells #[.int .i64 r.per, .int .i64 r.lo, .int .i64 r.hi, .int .i64 r.card, .int .i64 r.slack, .slice a r.houses.length c, .int .i64 r.all, .int .i64 r.off] 26)) w1) => (hx.block (by simp)).trans hb0)
  clear hb0
  go_enter Tryz.func20, Tryz.ntmps20
  go_upto_region 1 with fail
  rename_i K hK
  have HK : Hid (∀ (v10 v11 v12 v13 v14 v15 v16 v17 v18 v19 v20 v21 v22 v23 v24 v25 v26 v27 v28 v29 : Value) w18, Ext (w.alloc (.cells #[.int .i64 r.per, .int .i64 r.lo, .int .i64 r.hi, .int .i64 r.card, .int .i64 r.slack, .slice a r.houses.length c, .int .i64 r.all, .int .i64 r.off] 26)) w18 → K ⟨#[.agg #[.int .i64 r.per, .int .i64 r.lo, .int .i64 r.hi, .int .i64 r.card, .int .i64 r.slack, .slice a r.houses.length c, .int .i64 r.all, .int .i64 r.off], .pointer (some ⟨w.heap.size, 0, none⟩), .string ⟨#[]⟩, .slice (some ⟨w18.heap.size, 0, none⟩) 2 2, undef, undef, undef, undef, undef, undef, v10, v11, v12, v13, v14, v15, v16, v17, v18, v19, v20, v21, v22, v23, v24, v25, v26, v27, v28, v29, undef, undef, undef, undef, undef, undef, undef, undef, undef, undef, undef, undef, undef, undef, undef, undef, undef, undef, undef, undef, undef, undef, undef, undef, undef, undef, undef, undef, undef, undef, undef, undef, undef, undef, undef, undef, undef, undef, undef, undef, undef, undef, undef, undef, undef, undef, undef, undef, undef, undef, undef, undef, undef, undef, undef, undef, undef, undef, undef, undef, undef, undef, undef, undef, undef, undef, undef, undef, undef, undef, undef, undef, undef, undef, undef, undef, undef, undef, undef, undef, undef, undef, undef, undef, undef, undef, undef, undef, undef, undef, undef, undef, undef], []⟩ (w18.alloc (.cells #[strV (lineT wRound [r.per, (r.houses.length : Int)]), strV (lineT wWeigh [r.lo, r.hi, r.card, r.slack])] 9))) := by
    intro v10 v11 v12 v13 v14 v15 v16 v17 v18 v19 v20 v21 v22 v23 v24 v25 v26 v27 v28 v29 w18 hx18
    refine hK _ _ ?_
    have hxw18 := hx0.trans hx18
    have hz2 : w.heap.size + 1 ≤ w18.heap.size := by have := hx18.size; simp at this; omega
    have hown0 := owns_two (w := w18) (base := w.heap.size + 1) (e := 9) (strV (lineT wRound [r.per, (r.houses.length : Int)])) (strV (lineT wWeigh [r.lo, r.hi, r.card, r.slack])) hz2
    have hbx0 := Lib.hid (HBX.out _ (hx18.alloc (.cells #[strV (lineT wRound [r.per, (r.houses.length : Int)]), strV (lineT wWeigh [r.lo, r.hi, r.card, r.slack])] 9)))
    have hxw3 := hxw18.alloc (.cells #[strV (lineT wRound [r.per, (r.houses.length : Int)]), strV (lineT wWeigh [r.lo, r.hi, r.card, r.slack])] 9)
    have h4 := hB.n
    have hbx1 := hbx0.out
    obtain ⟨z0, z1, z2, z3, z4, z5, z6, z7⟩ := round_cells hbx1
    clear hbx1 hK
    generalize w18.alloc (.cells #[strV (lineT wRound [r.per, (r.houses.length : Int)]), strV (lineT wWeigh [r.lo, r.hi, r.card, r.slack])] 9) = W2 at *
    go_wp2
    go_loopw [3, 4] (fun lv i wr => ∃ k : Nat, k ≤ r.houses.length ∧ i = .int .i64 k ∧ wr.ownsRow (w.heap.size + 1) 9 1 lv (k + 2) ((linesUp r k).map strV) ∧ Ext w wr ∧ Hid (wr.heap[w.heap.size]? = some (.cells #[.int .i64 r.per, .int .i64 r.lo, .int .i64 r.hi, .int .i64 r.card, .int .i64 r.slack, .slice a r.houses.length c, .int .i64 r.all, .int .i64 r.off] 26 (0, 0)))) (fun _ i _ => r.houses.length - (intOf i).toNat)
    case atStart => exact ⟨0, Nat.zero_le _, rfl, hown0, hxw3, hbx0⟩
    case round =>
      clear hown0 hbx0 hxw3 hxw18 hx18 hz2 z0 z1 z2 z3 z4 z5 z6 z7 hx0
      obtain ⟨k, hk, rfl, hown, hx, hbx⟩ := hrel
      obtain ⟨z0, z1, z2, z3, z4, z5, z6, z7⟩ := round_cells hbx.out
      have hbk := (Array.getElem?_eq_some_iff.1 hbx.out).1
      have hsz : k + 2 + 1 ≤ maxLen ∧ (k + 2 + 1) * 16 ≤ 140737488355328 := by unfold maxLen; omega
      have HSZ := Lib.hid hsz
      clear hsz
      have HO := Lib.hid hown
      clear hown
      by_cases hlt : k < r.houses.length
      · have x2 : decide ((k : Int) < (r.houses.length : Int)) = true := by simpa using hlt
        obtain ⟨b, o, x, rfl, hxk, c0, c1, c2, c3, c4, c5⟩ := HH.out k hlt
        have d0 := hx.cell c0
        have d1 := hx.cell c1
        have d2 := hx.cell c2
        have d3 := hx.cell c3
        have d4 := hx.cell c4
        have d5 := hx.cell c5
        have HUP := Lib.hid (linesUp_succ hxk.out)
        have HL := Lib.hid (HL3.out x (List.mem_of_getElem? hxk.out))
        clear c0 c1 c2 c3 c4 c5
        go_wp2_with (first
          | (go_at_call 53; refine (HL.out _ _ (ints_at6 _ _ x (by simp))).mono ?_; rintro e w4 ⟨rfl, hx4⟩; have hx14 := (((Ext.refl wr).alloc _).alloc _).trans hx4; have hbz : w.heap.size + 1 ≤ w4.heap.size := by have := hx14.size; omega)
          | (at_builtin; refine wpList_push E_strs rfl _ _ rfl (w.heap.size + 1) rfl (owns_ext HO.out hx14) rfl rfl (by simp [Value.oneCell']) ?_ HSZ.out.1 HSZ.out.2 hbz; intro g cap w5 hown' hext hgr))
        go_roundw
        case rel => exact ⟨k + 1, by omega, by go_num, by rw [HUP.out, List.map_append]; exact hown', hext _ (hx.trans hx14) (Nat.le_succ _), kept_push hgr ((hx14.block hbk).trans hbx.out) (owns_block HO.out) (Nat.lt_succ_self _)⟩
        case measure => simp [intOf]; omega
      · have hke : k = r.houses.length := by omega
        subst hke
        have x2 : decide ((r.houses.length : Int) < (r.houses.length : Int)) = false := by simp
        go_wp2_with (first
          | (go_at_call 53; refine (HL4.out _ _ (ints_at2 _ _ _ _ rfl)).mono ?_; rintro e w4 ⟨rfl, hx4⟩; have hx14 := ((Ext.refl wr).alloc _).trans hx4; have hbz : w.heap.size + 1 ≤ w4.heap.size := by have := hx14.size; omega)
          | (at_builtin; refine wpList_push E_strs rfl _ _ rfl (w.heap.size + 1) rfl (owns_ext HO.out hx14) rfl rfl (by simp [Value.oneCell']) ?_ HSZ.out.1 HSZ.out.2 hbz; intro g cap w5 hown' hext hgr))
        have hle := linesUp_end r
        have hown2 : w5.ownsRow (w.heap.size + 1) 9 1 (.slice (some ⟨g, 0, none⟩) (r.houses.length + 2 + 1) cap) (linesT r).length ((linesT r).map strV) := by
          rw [linesT_length, ← hle, List.map_append]; exact hown'
        have hxw5 := hext _ (hx.trans hx14) (Nat.le_succ _)
        have hSt : StrsAt w5 (.slice (some ⟨g, 0, none⟩) (r.houses.length + 2 + 1) cap) (linesT r) := RowAt.of_owns hown2
        have hbd := fun (i : Nat) (hi : i ≤ 600) => linesSum_bd (linesT_short hB) hi
        have hsh := linesT_short hB
        have hlen := linesT_length r
        have HTX := Lib.hid (text_down r)
        generalize linesT r = L at *
        have HBD := Lib.hid hbd
        have HSH := Lib.hid hsh
        have HLN := Lib.hid hlen
        have hcell : ∀ (i : Nat) (l : List UInt8), L[i]? = some l → w5.cell? ⟨g, i, none⟩ = some (strV l) := fun i l hi => strs_cell hSt hi
        have HCE := Lib.hid hcell
        have HDL : Hid (∀ i, (downL (L.take i)).length ≤ 201 * 503) := fun i => by
          have h1 := down_len (L := L.take i) (fun l hl => hsh l (List.mem_of_mem_take hl))
          have h2 : (L.take i).length ≤ 503 := by rw [List.length_take]; omega
          omega
        clear hle hown2 hSt hbd hsh hlen hcell hown' hext hgr hx hx4 hx14 z0 z1 z2 z3 z4 z5 z6 z7 hbx HO
        go_loopw [6, 7, 8] (fun sv cv iv wr => ∃ i : Nat, i ≤ L.length ∧ iv = .int .i64 i ∧ cv = .int .i64 (linesSum L i) ∧ sv = strV (downL (L.take i)) ∧ wr = w5) (fun _ _ iv _ => L.length - (intOf iv).toNat)
        case atStart => exact ⟨0, Nat.zero_le _, rfl, rfl, by simp [downL], rfl⟩
        case round =>
          obtain ⟨i, hi, rfl, rfl, rfl, rfl⟩ := hrel
          have hbi := HBD.out i (by have := HLN.out; omega)
          have hN : L.length ≤ 503 := by have := HLN.out; omega
          by_cases hli : i < L.length
          · obtain ⟨l, hl⟩ : ∃ l, Hid (L[i]? = some l) := ⟨_, List.getElem?_eq_getElem hli⟩
            have hc := HCE.out i l hl.out
            have hll := HSH.out l (List.mem_of_getElem? hl.out)
            have hgd : L.getD i [] = l := by rw [List.getD_eq_getElem?_getD, hl.out]; rfl
            have HGD := Lib.hid (show linesSum L (i + 1) = linesSum L i + lineSum i l l.length by rw [linesSum, hgd])
            have HDS := Lib.hid (downL_succ hl.out)
            have HRS := Lib.hid (rdown_str (downL (L.take i)) l)
            have hdl := HDL.out i
            have g1 : ¬ 9223372036854775807 < (downL (L.take i)).length + l.length := by omega
            have g2 : ¬ 9223372036854775807 < (downL (L.take i)).length + l.length + 1 := by omega
            have x2 : decide ((i : Int) < (r.houses.length : Int) + 2 + 1) = true := by simp; have := HLN.out; omega
            have x3 : (i : Int) < (r.houses.length : Int) + 2 + 1 := by have := HLN.out; omega
            have x4 : i < r.houses.length + 2 + 1 := by have := HLN.out; omega
            obtain ⟨hb1, hb2⟩ := hbi
            have hb3 : linesSum L i ≤ 503 * 6160851000 := by
              have : (i : Int) * 6160851000 ≤ 503 * 6160851000 := Int.mul_le_mul_of_nonneg_right (by omega) (by omega)
              omega
            clear hgd hb2
            generalize downL (L.take i) = J at *
            obtain ⟨wL, hwL⟩ : ∃ wL : World, wL = wr := ⟨_, rfl⟩
            subst hwL
            go_wp2
            go_loopw [7, 9] (fun cv kv wr => ∃ k : Nat, k ≤ l.length ∧ kv = .int .i64 k ∧ cv = .int .i64 (linesSum L i + lineSum i l k) ∧ wr = wL) (fun _ kv _ => l.length - (intOf kv).toNat)
            case atStart => exact ⟨0, Nat.zero_le _, rfl, by simp [lineSum], rfl⟩
            case round =>
              obtain ⟨k, hk, rfl, rfl, rfl⟩ := hrel
              by_cases hlk : k < l.length
              · have hby : l.getD k 0 = l[k] := by rw [List.getD_eq_getElem?_getD, List.getElem?_eq_getElem hlk]; rfl
                have hs := lineSum_bd (i := i) (l := l) (by omega) (k := k) (by omega)
                have ht := term_bd (l[k]) (k := k) (i := i) (by omega) (by omega)
                obtain ⟨⟨t1, t2⟩, t3, t4⟩ := ht
                have hs2 : lineSum i l k ≤ 200 * 30804255 := by
                  have : (k : Int) * 30804255 ≤ 200 * 30804255 := Int.mul_le_mul_of_nonneg_right (by omega) (by omega)
                  omega
                obtain ⟨hs1, _⟩ := hs
                have HSU := Lib.hid (show lineSum i l (k + 1) = lineSum i l k + ((l[k]).toNat : Int) * ((k : Int) + 1) * ((i : Int) + 1) by rw [lineSum, hby])
                have x5 : decide ((k : Int) < (l.length : Int)) = true := by simpa using hlk
                clear hby
                go_wp2
                go_roundw
                case rel =>
                  refine ⟨k + 1, by omega, by go_num, ?_, trivial⟩
                  rw [HSU.out]
                  exact congrArg (Value.int IntKind.i64) (wrap_term t1 t2 t3 t4 (by omega) (byte_le _) hb1 (by omega) hs1 (by omega))
                case measure => simp [intOf]; omega
              · have hke : k = l.length := by omega
                subst hke
                have x5 : decide ((l.length : Int) < (l.length : Int)) = false := by simp
                go_wp2
                exact ⟨⟨i + 1, by omega, by go_num, by rw [HGD.out], by rw [HDS.out]; exact HRS.out, trivial⟩, by simp [intOf]; omega⟩
          · have hie : i = L.length := by omega
            subst hie
            have x2 : decide ((L.length : Int) < (r.houses.length : Int) + 2 + 1) = false := by simp; have := HLN.out; omega
            obtain ⟨hb1, hb2⟩ := hbi
            have hck : ∃ ck, checkT L = ck ∧ 0 ≤ ck ∧ ck ≤ 138 := ⟨_, rfl, by unfold checkT; omega, by unfold checkT; omega⟩
            obtain ⟨ck, hck, hc0, hc1⟩ := hck
            have HCK := Lib.hid hck
            have hsum : linesSum L L.length % 139 = ck := hck
            have hdl := HDL.out L.length
            have HTL : Hid (L.take L.length = L) := List.take_of_length_le (Nat.le_refl _)
            have HIT := Lib.hid (fun y (h0 : 0 ≤ y) (h1 : y ≤ 1000) w1 => rdecI_any y w1 h0 (by omega))
            have hl1 := Lib.itoa_length_le (ck / 100) (by omega) (by omega)
            have hl2 := Lib.itoa_length_le (ck / 10 % 10) (by omega) (by omega)
            have hl3 := Lib.itoa_length_le (ck % 10) (by omega) (by omega)
            clear hck
            rw [HTL.out] at hdl
            have g4 : ¬ 9223372036854775807 < (downL L).length + 4 := by omega
            have g5 : ¬ 9223372036854775807 < (downL L).length + 4 + (Lib.itoa (ck / 100)).length := by omega
            have g6 : ¬ 9223372036854775807 < (downL L).length + 4 + (Lib.itoa (ck / 100)).length + (Lib.itoa (ck / 10 % 10)).length := by omega
            have g7 : ¬ 9223372036854775807 < (downL L).length + 4 + (Lib.itoa (ck / 100)).length + (Lib.itoa (ck / 10 % 10)).length + (Lib.itoa (ck % 10)).length := by omega
            have g8 : ¬ 9223372036854775807 < (downL L).length + 4 + (Lib.itoa (ck / 100)).length + (Lib.itoa (ck / 10 % 10)).length + (Lib.itoa (ck % 10)).length + 1 := by omega
            have tok1 : True := trivial
            have tok2 : True := trivial
            go_wp2_with (first
              | (go_at_call 54; have _t := tok1; refine (HIT.out (ck / 100) (by omega) (by omega) _).mono ?_; rintro e w7 ⟨rfl, hx7⟩; clear tok1 _t)
              | (go_at_call 54; have _t := tok2; refine (HIT.out (ck / 10 % 10) (by omega) (by omega) _).mono ?_; rintro e w8 ⟨rfl, hx8⟩; clear tok2 _t)
              | (go_at_call 54; refine (HIT.out (ck % 10) (by omega) (by omega) _).mono ?_; rintro e w9 ⟨rfl, hx9⟩))
            go_ret
            refine ⟨?_, ((hxw5.trans hx7).trans hx8).trans hx9⟩
            rw [HTX.out, HCK.out]
            exact congrArg Ending.returned (rend_str _ _ _ _)
  refine wp_region_held_drew (S := (fun w' => Ext (w.alloc (.cells #[.int .i64 r.per, .int .i64 r.lo, .int .i64 r.hi, .int .i64 r.card, .int .i64 r.slack, .slice a r.houses.length c, .int .i64 r.all, .int .i64 r.off] 26)) w')) (by kernel_rfl) ?_ (fun hHeld => ?_)
  · exact (Ext.refl _).drew
  refine held_take (i := 0) (d := some 10) (v := ?_) (by kernel_rfl) (by kernel_rfl) (by kernel_rfl) (by kernel_rfl) (fun _ _ _ h => h) (fun o ho => ?_) hHeld ?_
  rotate_left
  · simp only [List.getElem?_toArray, List.getElem?_cons_zero, Option.some.injEq] at ho
    subst ho
    refine ⟨by rfl, fun w hSw => ?_⟩
    (try dsimp only at hSw)
    go_simp
    try with_reducible rfl
  try simp only [Act.put, List.setIfInBounds_toArray, List.set_cons_zero, List.set_cons_succ]
  refine held_take (i := 1) (d := some 11) (v := ?_) (by kernel_rfl) (by kernel_rfl) (by kernel_rfl) (by kernel_rfl) (fun _ _ _ h => h) (fun o ho => ?_) hHeld ?_
  rotate_left
  · simp only [List.getElem?_toArray, List.getElem?_cons_zero, List.getElem?_cons_succ, Option.some.injEq] at ho
    subst ho
    refine ⟨by rfl, fun w hSw => ?_⟩
    obtain ⟨z0, z1, z2, z3, z4, z5, -, -⟩ := round_cells (HBX.out _ hSw)
    clear hSw
    go_simp
    try with_reducible rfl
  try simp only [Act.put, List.setIfInBounds_toArray, List.set_cons_zero, List.set_cons_succ]
  refine held_take (i := 2) (d := some 12) (v := ?_) (by kernel_rfl) (by kernel_rfl) (by kernel_rfl) (by kernel_rfl) (fun _ _ _ h => h) (fun o ho => ?_) hHeld ?_
  rotate_left
  · simp only [List.getElem?_toArray, List.getElem?_cons_zero, List.getElem?_cons_succ, Option.some.injEq] at ho
    subst ho
    refine ⟨by rfl, fun w hSw => ?_⟩
    (try dsimp only at hSw)
    go_simp
    try with_reducible rfl
  try simp only [Act.put, List.setIfInBounds_toArray, List.set_cons_zero, List.set_cons_succ]
  refine held_take (i := 3) (d := some 13) (v := ?_) (by kernel_rfl) (by kernel_rfl) (by kernel_rfl) (by kernel_rfl) (fun _ _ _ h => h) (fun o ho => ?_) hHeld ?_
  rotate_left
  · simp only [List.getElem?_toArray, List.getElem?_cons_zero, List.getElem?_cons_succ, Option.some.injEq] at ho
    subst ho
    refine ⟨by rfl, fun w hSw => ?_⟩
    obtain ⟨z0, z1, z2, z3, z4, z5, -, -⟩ := round_cells (HBX.out _ hSw)
    clear hSw
    go_simp
    try with_reducible rfl
  try simp only [Act.put, List.setIfInBounds_toArray, List.set_cons_zero, List.set_cons_succ]
  refine held_take (i := 4) (d := some 14) (v := ?_) (by kernel_rfl) (by kernel_rfl) (by kernel_rfl) (by kernel_rfl) (fun _ _ _ h => h) (fun o ho => ?_) hHeld ?_
  rotate_left
  · simp only [List.getElem?_toArray, List.getElem?_cons_zero, List.getElem?_cons_succ, Option.some.injEq] at ho
    subst ho
    refine ⟨by rfl, fun w hSw => ?_⟩
    (try dsimp only at hSw)
    go_simp
    try with_reducible rfl
  try simp only [Act.put, List.setIfInBounds_toArray, List.set_cons_zero, List.set_cons_succ]
  refine held_take (i := 7) (d := some 17) (v := ?_) (by kernel_rfl) (by kernel_rfl) (by kernel_rfl) (by kernel_rfl) (fun _ _ _ h => h) (fun o ho => ?_) hHeld ?_
  rotate_left
  · simp only [List.getElem?_toArray, List.getElem?_cons_zero, List.getElem?_cons_succ, Option.some.injEq] at ho
    subst ho
    refine ⟨by rfl, fun w hSw => ?_⟩
    (try dsimp only at hSw)
    go_simp
    try with_reducible rfl
  try simp only [Act.put, List.setIfInBounds_toArray, List.set_cons_zero, List.set_cons_succ]
  refine held_take (i := 8) (d := some 18) (v := ?_) (by kernel_rfl) (by kernel_rfl) (by kernel_rfl) (by kernel_rfl) (fun _ _ _ h => h) (fun o ho => ?_) hHeld ?_
  rotate_left
  · simp only [List.getElem?_toArray, List.getElem?_cons_zero, List.getElem?_cons_succ, Option.some.injEq] at ho
    subst ho
    refine ⟨by rfl, fun w hSw => ?_⟩
    (try dsimp only at hSw)
    go_simp
    try with_reducible rfl
  try simp only [Act.put, List.setIfInBounds_toArray, List.set_cons_zero, List.set_cons_succ]
  refine held_take (i := 9) (d := some 19) (v := ?_) (by kernel_rfl) (by kernel_rfl) (by kernel_rfl) (by kernel_rfl) (fun _ _ _ h => h) (fun o ho => ?_) hHeld ?_
  rotate_left
  · simp only [List.getElem?_toArray, List.getElem?_cons_zero, List.getElem?_cons_succ, Option.some.injEq] at ho
    subst ho
    refine ⟨by rfl, fun w hSw => ?_⟩
    obtain ⟨z0, z1, z2, z3, z4, z5, -, -⟩ := round_cells (HBX.out _ hSw)
    clear hSw
    go_simp
    try with_reducible rfl
  try simp only [Act.put, List.setIfInBounds_toArray, List.set_cons_zero, List.set_cons_succ]
  refine held_take (i := 10) (d := some 20) (v := ?_) (by kernel_rfl) (by kernel_rfl) (by kernel_rfl) (by kernel_rfl) (fun _ _ _ h => h) (fun o ho => ?_) hHeld ?_
  rotate_left
  · simp only [List.getElem?_toArray, List.getElem?_cons_zero, List.getElem?_cons_succ, Option.some.injEq] at ho
    subst ho
    refine ⟨by rfl, fun w hSw => ?_⟩
    (try dsimp only at hSw)
    go_simp
    try with_reducible rfl
  try simp only [Act.put, List.setIfInBounds_toArray, List.set_cons_zero, List.set_cons_succ]
  refine held_take (i := 11) (d := some 21) (v := ?_) (by kernel_rfl) (by kernel_rfl) (by kernel_rfl) (by kernel_rfl) (fun _ _ _ h => h) (fun o ho => ?_) hHeld ?_
  rotate_left
  · simp only [List.getElem?_toArray, List.getElem?_cons_zero, List.getElem?_cons_succ, Option.some.injEq] at ho
    subst ho
    refine ⟨by rfl, fun w hSw => ?_⟩
    (try dsimp only at hSw)
    go_simp
    try with_reducible rfl
  try simp only [Act.put, List.setIfInBounds_toArray, List.set_cons_zero, List.set_cons_succ]
  refine held_take (i := 12) (d := some 22) (v := ?_) (by kernel_rfl) (by kernel_rfl) (by kernel_rfl) (by kernel_rfl) (fun _ _ _ h => h) (fun o ho => ?_) hHeld ?_
  rotate_left
  · simp only [List.getElem?_toArray, List.getElem?_cons_zero, List.getElem?_cons_succ, Option.some.injEq] at ho
    subst ho
    refine ⟨by rfl, fun w hSw => ?_⟩
    obtain ⟨z0, z1, z2, z3, z4, z5, -, -⟩ := round_cells (HBX.out _ hSw)
    clear hSw
    go_simp
    try with_reducible rfl
  try simp only [Act.put, List.setIfInBounds_toArray, List.set_cons_zero, List.set_cons_succ]
  refine held_take (i := 13) (d := some 23) (v := ?_) (by kernel_rfl) (by kernel_rfl) (by kernel_rfl) (by kernel_rfl) (fun _ _ _ h => h) (fun o ho => ?_) hHeld ?_
  rotate_left
  · simp only [List.getElem?_toArray, List.getElem?_cons_zero, List.getElem?_cons_succ, Option.some.injEq] at ho
    subst ho
    refine ⟨by rfl, fun w hSw => ?_⟩
    (try dsimp only at hSw)
    go_simp
    try with_reducible rfl
  try simp only [Act.put, List.setIfInBounds_toArray, List.set_cons_zero, List.set_cons_succ]
  refine held_take (i := 14) (d := some 24) (v := ?_) (by kernel_rfl) (by kernel_rfl) (by kernel_rfl) (by kernel_rfl) (fun _ _ _ h => h) (fun o ho => ?_) hHeld ?_
  rotate_left
  · simp only [List.getElem?_toArray, List.getElem?_cons_zero, List.getElem?_cons_succ, Option.some.injEq] at ho
    subst ho
    refine ⟨by rfl, fun w hSw => ?_⟩
    obtain ⟨z0, z1, z2, z3, z4, z5, -, -⟩ := round_cells (HBX.out _ hSw)
    clear hSw
    go_simp
    try with_reducible rfl
  try simp only [Act.put, List.setIfInBounds_toArray, List.set_cons_zero, List.set_cons_succ]
  refine held_take (i := 15) (d := some 25) (v := ?_) (by kernel_rfl) (by kernel_rfl) (by kernel_rfl) (by kernel_rfl) (fun _ _ _ h => h) (fun o ho => ?_) hHeld ?_
  rotate_left
  · simp only [List.getElem?_toArray, List.getElem?_cons_zero, List.getElem?_cons_succ, Option.some.injEq] at ho
    subst ho
    refine ⟨by rfl, fun w hSw => ?_⟩
    (try dsimp only at hSw)
    go_simp
    try with_reducible rfl
  try simp only [Act.put, List.setIfInBounds_toArray, List.set_cons_zero, List.set_cons_succ]
  refine held_take (i := 16) (d := some 26) (v := ?_) (by kernel_rfl) (by kernel_rfl) (by kernel_rfl) (by kernel_rfl) (fun _ _ _ h => h) (fun o ho => ?_) hHeld ?_
  rotate_left
  · simp only [List.getElem?_toArray, List.getElem?_cons_zero, List.getElem?_cons_succ, Option.some.injEq] at ho
    subst ho
    refine ⟨by rfl, fun w hSw => ?_⟩
    obtain ⟨z0, z1, z2, z3, z4, z5, -, -⟩ := round_cells (HBX.out _ hSw)
    clear hSw
    go_simp
    try with_reducible rfl
  try simp only [Act.put, List.setIfInBounds_toArray, List.set_cons_zero, List.set_cons_succ]
  refine wpAnyH_ready (rs := [5, 17]) (by kernel_rfl) (by simp) ?_
  refine held_step (i := 5) (by kernel_rfl) (fun o ho K' hK => ?_) ?_
  · simp only [List.getElem?_toArray, List.getElem?_cons_zero, List.getElem?_cons_succ, Option.some.injEq] at ho
    subst ho
    go_simp
    have hi5 := ints_new2 (w.alloc (.cells #[.int .i64 r.per, .int .i64 r.lo, .int .i64 r.hi, .int .i64 r.card, .int .i64 r.slack, .slice a r.houses.length c, .int .i64 r.all, .int .i64 r.off] 26)).drew r.per (r.houses.length : Int)
    try simp only [World.size_alloc, World.size_drew] at hi5
    refine hK.out _ _ ?_ (fun hHeld => ?_)
    · exact (((Ext.refl (w.alloc (.cells #[.int .i64 r.per, .int .i64 r.lo, .int .i64 r.hi, .int .i64 r.card, .int .i64 r.slack, .slice a r.houses.length c, .int .i64 r.all, .int .i64 r.off] 26))).drew).alloc _)
    clear hK K'
    try simp only [List.setIfInBounds_toArray, List.set_cons_zero, List.set_cons_succ]
    refine wpAnyH_ready (rs := [6, 17]) (by kernel_rfl) (by simp) ?_
    refine held_step (i := 6) (by kernel_rfl) (fun o ho K' hK => ?_) ?_
    · simp only [List.getElem?_toArray, List.getElem?_cons_zero, List.getElem?_cons_succ, Option.some.injEq] at ho
      subst ho
      go_simp
      go_at_call 53
      refine (HL1.out _ _ (IntsAt.ext hi5 (Ext.refl _))).mono ?_
      rintro e w6 ⟨rfl, hx6⟩
      refine hK.out _ _ ?_ (fun hHeld => ?_)
      · exact ((((Ext.refl (w.alloc (.cells #[.int .i64 r.per, .int .i64 r.lo, .int .i64 r.hi, .int .i64 r.card, .int .i64 r.slack, .slice a r.houses.length c, .int .i64 r.all, .int .i64 r.off] 26))).drew).alloc _).trans hx6)
      clear hK K'
      try simp only [List.setIfInBounds_toArray, List.set_cons_zero, List.set_cons_succ]
      refine wpAnyH_ready (rs := [17]) (by kernel_rfl) (by simp) ?_
      refine held_step (i := 17) (by kernel_rfl) (fun o ho K' hK => ?_) ?_
      · simp only [List.getElem?_toArray, List.getElem?_cons_zero, List.getElem?_cons_succ, Option.some.injEq] at ho
        subst ho
        go_simp
        have hi17 := ints_new4 w6 r.lo r.hi r.card r.slack
        try simp only [World.size_alloc, World.size_drew] at hi17
        refine hK.out _ _ ?_ (fun hHeld => ?_)
        · exact (((((Ext.refl (w.alloc (.cells #[.int .i64 r.per, .int .i64 r.lo, .int .i64 r.hi, .int .i64 r.card, .int .i64 r.slack, .slice a r.houses.length c, .int .i64 r.all, .int .i64 r.off] 26))).drew).alloc _).trans hx6).alloc _)
        clear hK K'
        try simp only [List.setIfInBounds_toArray, List.set_cons_zero, List.set_cons_succ]
        refine wpAnyH_ready (rs := [18]) (by kernel_rfl) (by simp) ?_
        refine held_step (i := 18) (by kernel_rfl) (fun o ho K' hK => ?_) ?_
        · simp only [List.getElem?_toArray, List.getElem?_cons_zero, List.getElem?_cons_succ, Option.some.injEq] at ho
          subst ho
          go_simp
          go_at_call 53
          refine (HL2.out _ _ (IntsAt.ext hi17 (Ext.refl _))).mono ?_
          rintro e w18 ⟨rfl, hx18⟩
          have hx0w := ((((((Ext.refl (w.alloc (.cells #[.int .i64 r.per, .int .i64 r.lo, .int .i64 r.hi, .int .i64 r.card, .int .i64 r.slack, .slice a r.houses.length c, .int .i64 r.all, .int .i64 r.off] 26))).drew).alloc _).trans hx6).alloc _).trans hx18)
          refine hK.out _ _ ?_ (fun hHeld => ?_)
          · exact ((((((Ext.refl (w.alloc (.cells #[.int .i64 r.per, .int .i64 r.lo, .int .i64 r.hi, .int .i64 r.card, .int .i64 r.slack, .slice a r.houses.length c, .int .i64 r.all, .int .i64 r.off] 26))).drew).alloc _).trans hx6).alloc _).trans hx18)
          clear hK K'
          try simp only [List.setIfInBounds_toArray, List.set_cons_zero, List.set_cons_succ]
          refine wpAnyH_ready (rs := [19]) (by kernel_rfl) (by simp) ?_
          refine held_step (i := 19) (by kernel_rfl) (fun o ho K' hK => ?_) ?_
          · simp only [List.getElem?_toArray, List.getElem?_cons_zero, List.getElem?_cons_succ, Option.some.injEq] at ho
            subst ho
            go_simp
            refine hK.out _ _ ?_ (fun hHeld => ?_)
            · exact ((((((Ext.refl (w.alloc (.cells #[.int .i64 r.per, .int .i64 r.lo, .int .i64 r.hi, .int .i64 r.card, .int .i64 r.slack, .slice a r.houses.length c, .int .i64 r.all, .int .i64 r.off] 26))).drew).alloc _).trans hx6).alloc _).trans hx18).alloc _
            clear hK K'
            try simp only [List.setIfInBounds_toArray, List.set_cons_zero, List.set_cons_succ]
            refine wpAnyH_ready (rs := [20]) (by kernel_rfl) (by simp) ?_
            refine held_step (i := 20) (by kernel_rfl) (fun o ho K' hK => ?_) ?_
            · simp only [List.getElem?_toArray, List.getElem?_cons_zero, List.getElem?_cons_succ, Option.some.injEq] at ho
              subst ho
              go_simp
              refine hK.out _ _ ?_ (fun hHeld => ?_)
              · exact ((((((Ext.refl (w.alloc (.cells #[.int .i64 r.per, .int .i64 r.lo, .int .i64 r.hi, .int .i64 r.card, .int .i64 r.slack, .slice a r.houses.length c, .int .i64 r.all, .int .i64 r.off] 26))).drew).alloc _).trans hx6).alloc _).trans hx18).alloc _
              clear hK K'
              try simp only [List.setIfInBounds_toArray, List.set_cons_zero, List.set_cons_succ]
              refine wpAnyH_done (by kernel_rfl) ?_ _
              try simp only [List.setIfInBounds_toArray, List.set_cons_zero, List.set_cons_succ]
              exact HK.out _ _ _ _ _ _ _ _ _ _ _ _ _ _ _ _ _ _ _ _ _ hx0w
            exact AllReadyH.nil
          exact AllReadyH.nil
        exact AllReadyH.nil
      exact AllReadyH.nil
    refine held_step (i := 17) (by kernel_rfl) (fun o ho K' hK => ?_) ?_
    · simp only [List.getElem?_toArray, List.getElem?_cons_zero, List.getElem?_cons_succ, Option.some.injEq] at ho
      subst ho
      go_simp
      have hi17 := ints_new4 ((w.alloc (.cells #[.int .i64 r.per, .int .i64 r.lo, .int .i64 r.hi, .int .i64 r.card, .int .i64 r.slack, .slice a r.houses.length c, .int .i64 r.all, .int .i64 r.off] 26)).drew.alloc (.cells #[.int .i64 r.per, .int .i64 (r.houses.length : Int)] 3)) r.lo r.hi r.card r.slack
      try simp only [World.size_alloc, World.size_drew] at hi17
      refine hK.out _ _ ?_ (fun hHeld => ?_)
      · exact ((((Ext.refl (w.alloc (.cells #[.int .i64 r.per, .int .i64 r.lo, .int .i64 r.hi, .int .i64 r.card, .int .i64 r.slack, .slice a r.houses.length c, .int .i64 r.all, .int .i64 r.off] 26))).drew).alloc _).alloc _)
      clear hK K'
      try simp only [List.setIfInBounds_toArray, List.set_cons_zero, List.set_cons_succ]
      refine wpAnyH_ready (rs := [6]) (by kernel_rfl) (by simp) ?_
      refine held_step (i := 6) (by kernel_rfl) (fun o ho K' hK => ?_) ?_
      · simp only [List.getElem?_toArray, List.getElem?_cons_zero, List.getElem?_cons_succ, Option.some.injEq] at ho
        subst ho
        go_simp
        go_at_call 53
        refine (HL1.out _ _ (IntsAt.ext hi5 ((Ext.refl _).alloc _))).mono ?_
        rintro e w6 ⟨rfl, hx6⟩
        refine hK.out _ _ ?_ (fun hHeld => ?_)
        · exact (((((Ext.refl (w.alloc (.cells #[.int .i64 r.per, .int .i64 r.lo, .int .i64 r.hi, .int .i64 r.card, .int .i64 r.slack, .slice a r.houses.length c, .int .i64 r.all, .int .i64 r.off] 26))).drew).alloc _).alloc _).trans hx6)
        clear hK K'
        try simp only [List.setIfInBounds_toArray, List.set_cons_zero, List.set_cons_succ]
        refine wpAnyH_ready (rs := [18]) (by kernel_rfl) (by simp) ?_
        refine held_step (i := 18) (by kernel_rfl) (fun o ho K' hK => ?_) ?_
        · simp only [List.getElem?_toArray, List.getElem?_cons_zero, List.getElem?_cons_succ, Option.some.injEq] at ho
          subst ho
          go_simp
          go_at_call 53
          refine (HL2.out _ _ (IntsAt.ext hi17 ((Ext.refl _).trans hx6))).mono ?_
          rintro e w18 ⟨rfl, hx18⟩
          have hx0w := ((((((Ext.refl (w.alloc (.cells #[.int .i64 r.per, .int .i64 r.lo, .int .i64 r.hi, .int .i64 r.card, .int .i64 r.slack, .slice a r.houses.length c, .int .i64 r.all, .int .i64 r.off] 26))).drew).alloc _).alloc _).trans hx6).trans hx18)
          refine hK.out _ _ ?_ (fun hHeld => ?_)
          · exact ((((((Ext.refl (w.alloc (.cells #[.int .i64 r.per, .int .i64 r.lo, .int .i64 r.hi, .int .i64 r.card, .int .i64 r.slack, .slice a r.houses.length c, .int .i64 r.all, .int .i64 r.off] 26))).drew).alloc _).alloc _).trans hx6).trans hx18)
          clear hK K'
          try simp only [List.setIfInBounds_toArray, List.set_cons_zero, List.set_cons_succ]
          refine wpAnyH_ready (rs := [19]) (by kernel_rfl) (by simp) ?_
          refine held_step (i := 19) (by kernel_rfl) (fun o ho K' hK => ?_) ?_
          · simp only [List.getElem?_toArray, List.getElem?_cons_zero, List.getElem?_cons_succ, Option.some.injEq] at ho
            subst ho
            go_simp
            refine hK.out _ _ ?_ (fun hHeld => ?_)
            · exact ((((((Ext.refl (w.alloc (.cells #[.int .i64 r.per, .int .i64 r.lo, .int .i64 r.hi, .int .i64 r.card, .int .i64 r.slack, .slice a r.houses.length c, .int .i64 r.all, .int .i64 r.off] 26))).drew).alloc _).alloc _).trans hx6).trans hx18).alloc _
            clear hK K'
            try simp only [List.setIfInBounds_toArray, List.set_cons_zero, List.set_cons_succ]
            refine wpAnyH_ready (rs := [20]) (by kernel_rfl) (by simp) ?_
            refine held_step (i := 20) (by kernel_rfl) (fun o ho K' hK => ?_) ?_
            · simp only [List.getElem?_toArray, List.getElem?_cons_zero, List.getElem?_cons_succ, Option.some.injEq] at ho
              subst ho
              go_simp
              refine hK.out _ _ ?_ (fun hHeld => ?_)
              · exact ((((((Ext.refl (w.alloc (.cells #[.int .i64 r.per, .int .i64 r.lo, .int .i64 r.hi, .int .i64 r.card, .int .i64 r.slack, .slice a r.houses.length c, .int .i64 r.all, .int .i64 r.off] 26))).drew).alloc _).alloc _).trans hx6).trans hx18).alloc _
              clear hK K'
              try simp only [List.setIfInBounds_toArray, List.set_cons_zero, List.set_cons_succ]
              refine wpAnyH_done (by kernel_rfl) ?_ _
              try simp only [List.setIfInBounds_toArray, List.set_cons_zero, List.set_cons_succ]
              exact HK.out _ _ _ _ _ _ _ _ _ _ _ _ _ _ _ _ _ _ _ _ _ hx0w
            exact AllReadyH.nil
          exact AllReadyH.nil
        exact AllReadyH.nil
      exact AllReadyH.nil
    exact AllReadyH.nil
  refine held_step (i := 17) (by kernel_rfl) (fun o ho K' hK => ?_) ?_
  · simp only [List.getElem?_toArray, List.getElem?_cons_zero, List.getElem?_cons_succ, Option.some.injEq] at ho
    subst ho
    go_simp
    have hi17 := ints_new4 (w.alloc (.cells #[.int .i64 r.per, .int .i64 r.lo, .int .i64 r.hi, .int .i64 r.card, .int .i64 r.slack, .slice a r.houses.length c, .int .i64 r.all, .int .i64 r.off] 26)).drew r.lo r.hi r.card r.slack
    try simp only [World.size_alloc, World.size_drew] at hi17
    refine hK.out _ _ ?_ (fun hHeld => ?_)
    · exact (((Ext.refl (w.alloc (.cells #[.int .i64 r.per, .int .i64 r.lo, .int .i64 r.hi, .int .i64 r.card, .int .i64 r.slack, .slice a r.houses.length c, .int .i64 r.all, .int .i64 r.off] 26))).drew).alloc _)
    clear hK K'
    try simp only [List.setIfInBounds_toArray, List.set_cons_zero, List.set_cons_succ]
    refine wpAnyH_ready (rs := [5]) (by kernel_rfl) (by simp) ?_
    refine held_step (i := 5) (by kernel_rfl) (fun o ho K' hK => ?_) ?_
    · simp only [List.getElem?_toArray, List.getElem?_cons_zero, List.getElem?_cons_succ, Option.some.injEq] at ho
      subst ho
      go_simp
      have hi5 := ints_new2 ((w.alloc (.cells #[.int .i64 r.per, .int .i64 r.lo, .int .i64 r.hi, .int .i64 r.card, .int .i64 r.slack, .slice a r.houses.length c, .int .i64 r.all, .int .i64 r.off] 26)).drew.alloc (.cells #[.int .i64 r.lo, .int .i64 r.hi, .int .i64 r.card, .int .i64 r.slack] 3)) r.per (r.houses.length : Int)
      try simp only [World.size_alloc, World.size_drew] at hi5
      refine hK.out _ _ ?_ (fun hHeld => ?_)
      · exact ((((Ext.refl (w.alloc (.cells #[.int .i64 r.per, .int .i64 r.lo, .int .i64 r.hi, .int .i64 r.card, .int .i64 r.slack, .slice a r.houses.length c, .int .i64 r.all, .int .i64 r.off] 26))).drew).alloc _).alloc _)
      clear hK K'
      try simp only [List.setIfInBounds_toArray, List.set_cons_zero, List.set_cons_succ]
      refine wpAnyH_ready (rs := [6]) (by kernel_rfl) (by simp) ?_
      refine held_step (i := 6) (by kernel_rfl) (fun o ho K' hK => ?_) ?_
      · simp only [List.getElem?_toArray, List.getElem?_cons_zero, List.getElem?_cons_succ, Option.some.injEq] at ho
        subst ho
        go_simp
        go_at_call 53
        refine (HL1.out _ _ (IntsAt.ext hi5 (Ext.refl _))).mono ?_
        rintro e w6 ⟨rfl, hx6⟩
        refine hK.out _ _ ?_ (fun hHeld => ?_)
        · exact (((((Ext.refl (w.alloc (.cells #[.int .i64 r.per, .int .i64 r.lo, .int .i64 r.hi, .int .i64 r.card, .int .i64 r.slack, .slice a r.houses.length c, .int .i64 r.all, .int .i64 r.off] 26))).drew).alloc _).alloc _).trans hx6)
        clear hK K'
        try simp only [List.setIfInBounds_toArray, List.set_cons_zero, List.set_cons_succ]
        refine wpAnyH_ready (rs := [18]) (by kernel_rfl) (by simp) ?_
        refine held_step (i := 18) (by kernel_rfl) (fun o ho K' hK => ?_) ?_
        · simp only [List.getElem?_toArray, List.getElem?_cons_zero, List.getElem?_cons_succ, Option.some.injEq] at ho
          subst ho
          go_simp
          go_at_call 53
          refine (HL2.out _ _ (IntsAt.ext hi17 (((Ext.refl _).alloc _).trans hx6))).mono ?_
          rintro e w18 ⟨rfl, hx18⟩
          have hx0w := ((((((Ext.refl (w.alloc (.cells #[.int .i64 r.per, .int .i64 r.lo, .int .i64 r.hi, .int .i64 r.card, .int .i64 r.slack, .slice a r.houses.length c, .int .i64 r.all, .int .i64 r.off] 26))).drew).alloc _).alloc _).trans hx6).trans hx18)
          refine hK.out _ _ ?_ (fun hHeld => ?_)
          · exact ((((((Ext.refl (w.alloc (.cells #[.int .i64 r.per, .int .i64 r.lo, .int .i64 r.hi, .int .i64 r.card, .int .i64 r.slack, .slice a r.houses.length c, .int .i64 r.all, .int .i64 r.off] 26))).drew).alloc _).alloc _).trans hx6).trans hx18)
          clear hK K'
          try simp only [List.setIfInBounds_toArray, List.set_cons_zero, List.set_cons_succ]
          refine wpAnyH_ready (rs := [19]) (by kernel_rfl) (by simp) ?_
          refine held_step (i := 19) (by kernel_rfl) (fun o ho K' hK => ?_) ?_
          · simp only [List.getElem?_toArray, List.getElem?_cons_zero, List.getElem?_cons_succ, Option.some.injEq] at ho
            subst ho
            go_simp
            refine hK.out _ _ ?_ (fun hHeld => ?_)
            · exact ((((((Ext.refl (w.alloc (.cells #[.int .i64 r.per, .int .i64 r.lo, .int .i64 r.hi, .int .i64 r.card, .int .i64 r.slack, .slice a r.houses.length c, .int .i64 r.all, .int .i64 r.off] 26))).drew).alloc _).alloc _).trans hx6).trans hx18).alloc _
            clear hK K'
            try simp only [List.setIfInBounds_toArray, List.set_cons_zero, List.set_cons_succ]
            refine wpAnyH_ready (rs := [20]) (by kernel_rfl) (by simp) ?_
            refine held_step (i := 20) (by kernel_rfl) (fun o ho K' hK => ?_) ?_
            · simp only [List.getElem?_toArray, List.getElem?_cons_zero, List.getElem?_cons_succ, Option.some.injEq] at ho
              subst ho
              go_simp
              refine hK.out _ _ ?_ (fun hHeld => ?_)
              · exact ((((((Ext.refl (w.alloc (.cells #[.int .i64 r.per, .int .i64 r.lo, .int .i64 r.hi, .int .i64 r.card, .int .i64 r.slack, .slice a r.houses.length c, .int .i64 r.all, .int .i64 r.off] 26))).drew).alloc _).alloc _).trans hx6).trans hx18).alloc _
              clear hK K'
              try simp only [List.setIfInBounds_toArray, List.set_cons_zero, List.set_cons_succ]
              refine wpAnyH_done (by kernel_rfl) ?_ _
              try simp only [List.setIfInBounds_toArray, List.set_cons_zero, List.set_cons_succ]
              exact HK.out _ _ _ _ _ _ _ _ _ _ _ _ _ _ _ _ _ _ _ _ _ hx0w
            exact AllReadyH.nil
          exact AllReadyH.nil
        exact AllReadyH.nil
      exact AllReadyH.nil
    exact AllReadyH.nil
  exact AllReadyH.nil
end Go.Proofs.YtbeophjdiddomaaGreatDoor
