/- The law CardSpoilt: its ways joined. -/
import Derived.Test.YtbeophjdiddomaaGreatDoorSpoilt
import Derived.Test.YtbeophjdiddomaaGreatDoorRead
namespace Go.Proofs.YtbeophjdiddomaaGreatDoor
open Go.RowKit

theorem cardSpoilt_any (v : Value) (r : Round) (p d : Int) (w : World) (hr : RoundAt w v r) (ht : TabOk w) (hm : MaxOk w) : Calls Tryz.prog 6 #[v, .int .i64 p, .int .i64 d] w (TrueP w) := by
  cases hs : slimB r with
  | false => exact spoiltL_e0 v r p d w hr ht hs
  | true =>
  cases hb : isRoundB r with
  | false => exact spoiltL_e1 v r p d w hr ht hs hb
  | true =>
  by_cases hd : d < 0
  · exact spoiltL_e2 v r p d w hr ht hs hb hd
  by_cases hd9 : 9 < d
  · exact spoiltL_e3 v r p d w hr ht hs hb (by omega) hd9
  have d0 : 0 ≤ d := by omega
  have d9 : d ≤ 9 := by omega
  by_cases hp : p < 0
  · exact spoiltL_e4 v r p d w hr ht hs hb d0 d9 _ rfl hp
  by_cases hp2 : ((textT r).length : Int) ≤ p
  · exact spoiltL_e5 v r p d w hr ht hs hb d0 d9 _ rfl (by omega) hp2
  obtain ⟨pn, rfl⟩ : ∃ pn : Nat, p = (pn : Int) := ⟨p.toNat, by omega⟩
  have hpn : pn < (textT r).length := by omega
  by_cases hl : ((textT r)[pn]).toNat < 48
  · exact spoiltL_e6 v r pn d w hr ht hs hb d0 d9 _ rfl _ pn hpn rfl rfl hl
  by_cases hl2 : 57 < ((textT r)[pn]).toNat
  · exact spoiltL_e7 v r pn d w hr ht hs hb d0 d9 _ rfl _ pn hpn rfl rfl hl2
  by_cases hq : (((textT r)[pn]).toNat : Int) - 48 = d
  · exact spoiltL_e8 v r pn d w hr ht hs hb d0 d9 _ rfl _ pn hpn rfl rfl hq
  have hB := roundB_of hb
  obtain ⟨x, hx⟩ : ∃ x : UInt8, (x.toNat : Int) = 48 + d := ⟨UInt8.ofNat (48 + d).toNat, by rw [UInt8.toNat_ofNat']; omega⟩
  have hno : ¬ ∃ q, TextOf ((textT r).set pn x) q := by
    refine spoilt hB (b := (textT r)[pn]) (List.getElem?_eq_getElem hpn) ?_ ?_ (fun e => hq (by rw [← e]; omega))
    · unfold digB; simp only [Bool.and_eq_true, decide_eq_true_eq]; omega
    · unfold digB; simp only [Bool.and_eq_true, decide_eq_true_eq]; omega
  have h4 := text_400 hB
  refine spoiltL_e9 v r pn d w hr ht hs hb d0 d9 _ rfl _ pn hpn rfl rfl (by omega) (by omega) hq x hx (fun w1 h1 => ?_)
  have hlen : ((textT r).set pn x).length ≤ 400 := by rw [List.length_set]; exact h4
  refine (read_res _ w1 (by omega) (fun w2 h2 => read_any _ w2 (ht.ext (h1.trans h2)) (hm.ext (h1.trans h2)) (by omega))).mono fun e w' h => ?_
  obtain ⟨u, err, rfl, hx', -, h5, -⟩ := h
  obtain ⟨rfl, rfl⟩ := h5 hlen hno
  exact ⟨rfl, hx'⟩
end Go.Proofs.YtbeophjdiddomaaGreatDoor
