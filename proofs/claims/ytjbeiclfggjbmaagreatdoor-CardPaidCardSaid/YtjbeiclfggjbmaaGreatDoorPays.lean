/- The law CardPays: the reference's Rate, Kept, Bringings, Pay; the walk. -/
import Derived.Test.YtjbeiclfggjbmaaGreatDoorOpened
namespace Go.Proofs.YtjbeiclfggjbmaaGreatDoor
open Go.RowKit

theorem rrate_any (n : Int) (w : World) :
    Calls Tryz.prog 38 #[.int .i64 n] w fun e w' => e = .returned (.bool (inB n 0 1000)) ∧ w = w' := by
  go_enter Tryz.func38, Tryz.ntmps38
  go_wp2_with (go_at_call 98; refine (rin_any _ _ _ _).mono ?_; rintro e w' ⟨rfl, rfl⟩)
  go_ret
  exact ⟨rfl, rfl⟩
theorem rkept_any (n : Int) (w : World) :
    Calls Tryz.prog 42 #[.int .i64 n] w fun e w' => e = .returned (.bool (inB n 0 143)) ∧ w = w' := by
  go_enter Tryz.func42, Tryz.ntmps42
  go_wp2_with (go_at_call 98; refine (rin_any _ _ _ _).mono ?_; rintro e w' ⟨rfl, rfl⟩)
  go_ret
  exact ⟨rfl, rfl⟩
def bringB (l : List Int) : Bool := decide (l.length ≤ 12) && !l.any (fun n => !inB n 0 3000)
theorem payOk_eq (rate kept : Int) (l : List Int) : payOk rate kept l = (inB rate 0 1000 && inB kept 0 143 && bringB l) := by
  simp [payOk, bringB, Bool.and_assoc]
set_option maxHeartbeats 1000000 in
theorem rbring_any (v : Value) (l : List Int) (w : World) (hv : IntsAt w v l) :
    Calls Tryz.prog 43 #[v] w fun e w' => e = .returned (.bool (bringB l)) ∧ w = w' := by
  obtain ⟨a, c, rfl, h1, h2, h3⟩ := hv.open
  have H3 := Lib.hid h3
  clear h3 hv
  go_enter Tryz.func43, Tryz.ntmps43
  go_wp2
  go_loopw [3] (fun i wr => ∃ k : Nat, k ≤ l.length ∧ i = .int .i64 k ∧ Hid ((l.take k).any (fun n => !inB n 0 3000) = false) ∧ w = wr) (fun i _ => l.length - (intOf i).toNat)
  case atStart => exact ⟨0, Nat.zero_le _, rfl, by simp [Hid], rfl⟩
  case round =>
    obtain ⟨k, hk, rfl, hno, rfl⟩ := hrel
    by_cases hlt : k < l.length
    · obtain ⟨b, o, n, rfl, hxk, hc⟩ := H3.out k hlt
      have x2 : decide ((k : Int) < (l.length : Int)) = true := by simpa using hlt
      cases hin : inB n 0 3000 with
      | true =>
        have HI := Lib.hid (fun w1 => hin ▸ rin_any n 0 3000 w1)
        have HN : Hid ((l.take (k + 1)).any (fun n => !inB n 0 3000) = false) := by
          unfold Hid; rw [any_take_succ _ hxk.out, hno.out, hin]; rfl
        clear hin
        go_wp2_with (go_at_call 98; refine (HI.out _).mono ?_; rintro e w' ⟨rfl, rfl⟩)
        go_roundw
        case rel => exact ⟨k + 1, by omega, by go_num, HN, by trivial⟩
        case measure => simp [intOf]; omega
      | false =>
        have HI := Lib.hid (fun w1 => hin ▸ rin_any n 0 3000 w1)
        have HN : Hid (bringB l = false) := by
          unfold Hid bringB; rw [any_of_at (fun n => !inB n 0 3000) hxk.out (by rw [hin]; rfl)]; simp
        clear hin
        go_wp2_with (go_at_call 98; refine (HI.out _).mono ?_; rintro e w' ⟨rfl, rfl⟩)
        go_ret
        exact ⟨by rw [HN.out] <;> rfl, rfl⟩
    · have hke : k = l.length := by omega
      have x2 : decide ((k : Int) < (l.length : Int)) = false := by simp; omega
      have HN : Hid (bringB l = decide ((l.length : Int) ≤ 12)) := by
        have h := hno.out
        rw [List.take_of_length_le (by omega)] at h
        unfold Hid bringB; rw [h]; simp; omega
      clear hke
      go_wp2
      go_ret
      exact ⟨by rw [HN.out] <;> rfl, rfl⟩

def RPayPost (w : World) (rate kept : Int) (l : List Int) (e : Ending) (w' : World) : Prop :=
  ∃ v, e = .returned (.tuple #[v, .int .i64 (payGo rate kept l).2]) ∧ IntsAt w' v (payGo rate kept l).1 ∧ Ext w w'
set_option maxRecDepth 100000 in
set_option maxHeartbeats 1000000 in
theorem rpay_any (rate kept : Int) (v : Value) (l : List Int) (w : World) (hv : IntsAt w v l) (hok : payOk rate kept l = true) :
    Calls Tryz.prog 44 #[.int .i64 rate, .int .i64 kept, v] w (RPayPost w rate kept l) := by
  have hok' := hok
  simp only [payOk, Bool.and_eq_true, decide_eq_true_eq, Bool.not_eq_true'] at hok'
  obtain ⟨⟨⟨q1, q2⟩, q3⟩, q4⟩ := hok'
  obtain ⟨q5, q6⟩ := inB_iff.1 q1
  obtain ⟨q7, q8⟩ := inB_iff.1 q2
  have hb : ∀ n, n ∈ l → 0 ≤ n ∧ n ≤ 3000 := by
    intro n hn
    have h := q4
    simp only [List.any_eq_false] at h
    have := h n hn
    simpa [inB] using this
  obtain ⟨a, c, rfl, h1, h2, h3⟩ := hv.open
  clear q1 q2 q4 hok
  go_enter Tryz.func44, Tryz.ntmps44
  go_wp2
  go_loopw [1, 8, 9] (fun kp out i wr => ∃ (k : Nat), k ≤ l.length ∧ i = .int .i64 k ∧ kp = .int .i64 (payGo rate kept (l.take k)).2 ∧ wr.ownsRow w.heap.size 3 1 out k ((payGo rate kept (l.take k)).1.map (.int .i64)) ∧ Ext w wr) (fun _ _ i _ => l.length - (intOf i).toNat)
  case atStart => exact ⟨0, Nat.zero_le _, rfl, by simp [payGo], World.ownsRow_nil _ _ _ _, Ext.refl _⟩
  case round =>
    obtain ⟨k, hk, rfl, rfl, hown, hx⟩ := hrel
    by_cases hlt : k < l.length
    · obtain ⟨b, o, n, rfl, hxk, hc⟩ := h3 k hlt
      have hc' := hx.cell hc
      have hbn := hb n (List.mem_of_getElem? hxk.out)
      have hkp := payGo_kept rate kept (l.take k) q7 q8
      have hlen := payGo_length rate kept (l.take k)
      have HS : Hid (payGo rate kept (l.take (k + 1)) = ((payGo rate kept (l.take k)).1 ++ [((payGo rate kept (l.take k)).2 + n) / 144 * rate], ((payGo rate kept (l.take k)).2 + n) % 144)) := by
        unfold Hid; rw [List.take_add_one, hxk.out]; exact payGo_take rate kept (l.take k) n
      clear hc h3 hb hv
      obtain ⟨K, hK⟩ : ∃ K, (payGo rate kept (l.take k)).2 = K := ⟨_, rfl⟩
      obtain ⟨L, hL⟩ : ∃ L, (payGo rate kept (l.take k)).1 = L := ⟨_, rfl⟩
      rw [hK] at hkp HS ⊢
      rw [hL] at hown HS hlen
      clear hK hL
      obtain ⟨hkp1, hkp2⟩ := hkp
      have hm : (K + n) / 144 ≤ 22 := by omega
      have hm0 : 0 ≤ (K + n) / 144 := by omega
      have hr1 : 0 ≤ (K + n) / 144 * rate := Int.mul_nonneg hm0 q5
      have hr2 : (K + n) / 144 * rate ≤ 22000 := by
        have := Int.mul_le_mul hm q6 q5 (by omega : (0:Int) ≤ 22)
        omega
      have x2 : decide ((k : Int) < (l.length : Int)) = true := by simpa using hlt
      go_wp2_with (at_builtin; go_loud (refine wpList_push E_ints rfl _ _ rfl w.heap.size rfl hown rfl rfl (by simp [Value.oneCell']) ?_ ?c1 ?c2 ?c3); intro g cap w2 hown' hext _)
      case c1 => unfold maxLen; omega
      case c2 => omega
      case c3 => exact hx.size
      go_roundw
      case rel => exact ⟨k + 1, by omega, by go_num, by rw [HS.out], by rw [HS.out]; simpa using hown', hext _ hx (Nat.le_refl _)⟩
      case measure => simp [intOf]; omega
    · have hkl : k = l.length := by omega
      have x2 : decide ((k : Int) < (l.length : Int)) = false := by simp; omega
      have hfin : RPayPost w rate kept l (.returned (.tuple #[u8, .int .i64 (payGo rate kept (l.take k)).2])) wr := by
        have ht : l.take k = l := List.take_of_length_le (by omega)
        rw [ht, hkl] at hown
        rw [ht]
        exact ⟨u8, rfl, IntsAt.of_owns (by simpa [payGo_length] using hown), hx⟩
      have HF := Lib.hid hfin
      clear hfin hkl
      go_wp2
      go_ret2
      exact HF.out

theorem pay_no {rate kept : Int} {v : Value} {l : List Int} {w : World} (hv : IntsAt w v l) (h : payOk rate kept l = false) :
    Calls Tryz.prog 41 #[.int .i64 rate, .int .i64 kept, v] w fun e w' => ∃ (a : Option Addr) (c : Nat), e = .returned (.tuple #[.slice a 0 c, .int .i64 0, .int .i64 2]) ∧ Ext w w' :=
  (pay_any rate kept v l w hv).mono fun e w' hq => by
    obtain ⟨v1, h1, h2, h3⟩ := hq
    rw [h, if_neg (by simp), if_neg (by simp)] at h1
    rw [h, if_neg (by simp)] at h2
    obtain ⟨a, c, rfl, _⟩ := h2.open
    exact ⟨a, c, h1, h3⟩
theorem pay_yes {rate kept : Int} {v : Value} {l : List Int} {w : World} (hv : IntsAt w v l) (h : payOk rate kept l = true) :
    Calls Tryz.prog 41 #[.int .i64 rate, .int .i64 kept, v] w fun e w' => ∃ (a : Option Addr) (n c : Nat), e = .returned (.tuple #[.slice a n c, .int .i64 (payGo rate kept l).2, .int .i64 0]) ∧ n = l.length ∧ n ≤ c ∧ c ≤ maxLen ∧ IntsAt w' (.slice a n c) (payGo rate kept l).1 ∧ Ext w w' :=
  (pay_any rate kept v l w hv).mono fun e w' hq => by
    obtain ⟨v1, h1, h2, h3⟩ := hq
    rw [h, if_pos rfl, if_pos rfl] at h1
    rw [h, if_pos rfl] at h2
    obtain ⟨a, c, rfl, h4, h5, _⟩ := h2.open
    exact ⟨a, _, c, h1, payGo_length _ _ _, h4, h5, h2, h3⟩

set_option maxRecDepth 100000 in
set_option maxHeartbeats 4000000 in
theorem cardPays_any (rate kept : Int) (v : Value) (l : List Int) (w : World) (hv : IntsAt w v l) (ht : TabOk w) :
    Calls Tryz.prog 6 #[.int .i64 rate, .int .i64 kept, v] w (TrueP w) := by
  have HL := Lib.hid (fun w1 (hx : Ext w w1) => lknown_any w1 (ht.ext hx))
  have HBR := Lib.hid (fun w1 (hx : Ext w w1) => rbring_any v l w1 (hv.ext hx))
  have HPN := Lib.hid (fun (h : payOk rate kept l = false) w1 (hx : Ext w w1) => pay_no (hv.ext hx) h)
  have HPY := Lib.hid (fun (h : payOk rate kept l = true) w1 (hx : Ext w w1) => pay_yes (hv.ext hx) h)
  have HRP := Lib.hid (fun (h : payOk rate kept l = true) w1 (hx : Ext w w1) => rpay_any rate kept v l w1 (hv.ext hx) h)
  obtain ⟨a, c, rfl, h1, h2, _⟩ := hv.open
  clear hv ht
  by_cases hl : 14 < l.length
  · have t0 : decide ((14 : Int) < (l.length : Int)) = true := by simp; omega
    go_enter Tryz.func6, Tryz.ntmps6
    go_wp2_with (go_at_call 25; refine (HL.out _ (Ext.refl _)).mono ?_; rintro e w1 ⟨rfl, hx1⟩)
    go_ret
    exact ⟨rfl, hx1⟩
  · have t0 : decide ((14 : Int) < (l.length : Int)) = false := by simp; omega
    cases hok : payOk rate kept l with
    | false =>
      have HOK := Lib.hid hok
      have hno := hok
      rw [payOk_eq] at hno
      clear hok
      cases hr : inB rate 0 1000 with
      | false =>
        have HR := Lib.hid (fun w1 => hr ▸ rrate_any rate w1)
        clear hr hno
        go_enter Tryz.func6, Tryz.ntmps6
        go_wp2_with (first
          | (go_at_call 41; refine (HPN.out HOK.out _ (Ext.refl _)).mono ?_; rintro e w1 ⟨a1, c1, rfl, hx1⟩)
          | (go_at_call 38; refine (HR.out _).mono ?_; rintro e w' ⟨rfl, rfl⟩)
          | (go_at_call 25; refine (HL.out _ hx1).mono ?_; rintro e w2 ⟨rfl, hx2⟩))
        go_ret
        exact ⟨rfl, hx1.trans hx2⟩
      | true =>
        have HR := Lib.hid (fun w1 => hr ▸ rrate_any rate w1)
        rw [hr] at hno
        clear hr
        cases hk : inB kept 0 143 with
        | false =>
          have HK := Lib.hid (fun w1 => hk ▸ rkept_any kept w1)
          clear hk hno
          go_enter Tryz.func6, Tryz.ntmps6
          go_wp2_with (first
            | (go_at_call 41; refine (HPN.out HOK.out _ (Ext.refl _)).mono ?_; rintro e w1 ⟨a1, c1, rfl, hx1⟩)
            | (go_at_call 38; refine (HR.out _).mono ?_; rintro e w' ⟨rfl, rfl⟩)
            | (go_at_call 42; refine (HK.out _).mono ?_; rintro e w' ⟨rfl, rfl⟩)
            | (go_at_call 25; refine (HL.out _ hx1).mono ?_; rintro e w2 ⟨rfl, hx2⟩))
          go_ret
          exact ⟨rfl, hx1.trans hx2⟩
        | true =>
          have HK := Lib.hid (fun w1 => hk ▸ rkept_any kept w1)
          rw [hk] at hno
          have HN := Lib.hid (show bringB l = false by simpa using hno)
          clear hk hno
          go_enter Tryz.func6, Tryz.ntmps6
          go_wp2_with (first
            | (go_at_call 41; refine (HPN.out HOK.out _ (Ext.refl _)).mono ?_; rintro e w1 ⟨a1, c1, rfl, hx1⟩)
            | (go_at_call 38; refine (HR.out _).mono ?_; rintro e w' ⟨rfl, rfl⟩)
            | (go_at_call 42; refine (HK.out _).mono ?_; rintro e w' ⟨rfl, rfl⟩)
            | (go_at_call 43; refine (HBR.out _ hx1).mono ?_; rw [HN.out]; rintro e w' ⟨rfl, rfl⟩)
            | (go_at_call 25; refine (HL.out _ hx1).mono ?_; rintro e w2 ⟨rfl, hx2⟩))
          go_ret
          exact ⟨rfl, hx1.trans hx2⟩
    | true =>
      have HOK := Lib.hid hok
      have hyes := hok
      rw [payOk_eq] at hyes
      simp only [Bool.and_eq_true] at hyes
      obtain ⟨⟨hr, hk⟩, hb⟩ := hyes
      have HR := Lib.hid (fun w1 => hr ▸ rrate_any rate w1)
      have HK := Lib.hid (fun w1 => hk ▸ rkept_any kept w1)
      have HN := Lib.hid hb
      clear hr hk hb hok
      go_enter Tryz.func6, Tryz.ntmps6
      go_wp2_with (first
        | (go_at_call 41; refine (HPY.out HOK.out _ (Ext.refl _)).mono ?_; rintro e w1 ⟨a1, n1, c1, rfl, rfl, hnc1, hc1, hi1, hx1⟩; have HI1 := Lib.hid hi1; clear hi1)
        | (go_at_call 38; refine (HR.out _).mono ?_; rintro e w' ⟨rfl, rfl⟩)
        | (go_at_call 42; refine (HK.out _).mono ?_; rintro e w' ⟨rfl, rfl⟩)
        | (go_at_call 43; refine (HBR.out _ hx1).mono ?_; rw [HN.out]; rintro e w' ⟨rfl, rfl⟩)
        | (go_at_call 44; refine (HRP.out HOK.out _ hx1).mono ?_; rintro e w2 ⟨v2, rfl, hi2, hx2⟩; have HI2 := Lib.hid hi2; clear hi2)
        | (go_at_call 34; refine (same_yes _ _ _ _ (HI1.out.ext hx2) HI2.out).mono ?_; rintro e w3 ⟨rfl, hx3⟩; have hx13 := (hx1.trans hx2).trans hx3)
        | (go_at_call 25; refine (HL.out _ hx13).mono ?_; rintro e w4 ⟨rfl, hx4⟩))
      go_ret
      exact ⟨rfl, hx13.trans hx4⟩
end Go.Proofs.YtjbeiclfggjbmaaGreatDoor
