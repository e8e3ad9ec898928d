/- The law CardFills: the reference's Sum, Kinds, Order, fill, Fill; the walk. -/
import Derived.Test.YtjbeiclfggjbmaaGreatDoorPays
import Derived.Test.YtjbeiclfggjbmaaGreatDoorFilld
namespace Go.Proofs.YtjbeiclfggjbmaaGreatDoor
open Go.RowKit

theorem rorder_any (n : Int) (w : World) :
    Calls Tryz.prog 62 #[.int .i64 n] w fun e w' => e = .returned (.bool (inB n 0 3000)) ∧ w = w' := by
  go_enter Tryz.func62, Tryz.ntmps62
  go_wp2_with (go_at_call 98; refine (rin_any _ _ _ _).mono ?_; rintro e w' ⟨rfl, rfl⟩)
  go_ret
  exact ⟨rfl, rfl⟩
theorem sum_take_succ {l : List Int} {k : Nat} {x : Int} (h : l[k]? = some x) : (l.take (k + 1)).sum = (l.take k).sum + x := by
  rw [List.take_add_one, h]; simp
theorem sum_take_bd {l : List Int} (hb : ∀ x, x ∈ l → 0 ≤ x ∧ x ≤ 1000000) : ∀ k, 0 ≤ (l.take k).sum ∧ (l.take k).sum ≤ 1000000 * k
  | 0 => by simp
  | k + 1 => by
    have ih := sum_take_bd hb k
    cases hx : l[k]? with
    | none =>
      have hl := List.getElem?_eq_none_iff.1 hx
      rw [List.take_of_length_le (by omega)] at ih ⊢
      omega
    | some x =>
      have := hb x (List.mem_of_getElem? hx)
      rw [sum_take_succ hx]; omega
set_option maxRecDepth 100000 in
set_option maxHeartbeats 1000000 in
theorem rsum_any (v : Value) (l : List Int) (w : World) (hv : IntsAt w v l) (hb : ∀ x, x ∈ l → 0 ≤ x ∧ x ≤ 1000000) (hl : l.length ≤ 1000) :
    Calls Tryz.prog 64 #[v] w fun e w' => e = .returned (.int .i64 l.sum) ∧ w = w' := by
  obtain ⟨a, c, rfl, h1, h2, h3⟩ := hv.open
  have H3 := Lib.hid h3
  have HB := Lib.hid (sum_take_bd hb)
  have HB1 := Lib.hid hb
  clear h3 hv hb
  go_enter Tryz.func64, Tryz.ntmps64
  go_wp2
  go_loopw [3, 4] (fun s i wr => ∃ k : Nat, k ≤ l.length ∧ i = .int .i64 k ∧ s = .int .i64 (l.take k).sum ∧ w = wr) (fun _ i _ => l.length - (intOf i).toNat)
  case atStart => exact ⟨0, Nat.zero_le _, rfl, by simp, rfl⟩
  case round =>
    obtain ⟨k, hk, rfl, rfl, rfl⟩ := hrel
    have hs := HB.out k
    by_cases hlt : k < l.length
    · obtain ⟨b, o, n, rfl, hxk, hc⟩ := H3.out k hlt
      have x2 : decide ((k : Int) < (l.length : Int)) = true := by simpa using hlt
      have hn := HB1.out n (List.mem_of_getElem? hxk.out)
      have HS := Lib.hid (sum_take_succ hxk.out)
      generalize (l.take k).sum = s at *
      obtain ⟨hs1, hs2⟩ := hs
      obtain ⟨hn1, hn2⟩ := hn
      go_wp2
      go_roundw
      case rel => exact ⟨k + 1, by omega, by go_num, by rw [HS.out], by trivial⟩
      case measure => simp [intOf]; omega
    · have hke : k = l.length := by omega
      have x2 : decide ((k : Int) < (l.length : Int)) = false := by simp; omega
      have HE : Hid ((l.take k).sum = l.sum) := by unfold Hid; rw [List.take_of_length_le (by omega)]
      clear hke
      go_wp2
      go_ret
      exact ⟨by rw [HE.out] <;> rfl, rfl⟩
set_option maxRecDepth 100000 in
set_option maxHeartbeats 1000000 in
theorem rkinds_any (v : Value) (ks : List Kind) (w : World) (hv : KindsAt w v ks) :
    Calls Tryz.prog 61 #[v] w fun e w' => e = .returned (.bool (isKindsB ks)) ∧ w = w' := by
  obtain ⟨a, c, rfl, h1, h2, h3⟩ := hv.open
  have H3 := Lib.hid h3
  clear h3 hv
  go_enter Tryz.func61, Tryz.ntmps61
  go_wp2
  go_loopw [3] (fun i wr => ∃ k : Nat, k ≤ ks.length ∧ i = .int .i64 k ∧ Hid ((ks.take k).any badKind = false) ∧ w = wr) (fun i _ => ks.length - (intOf i).toNat)
  case atStart => exact ⟨0, Nat.zero_le _, rfl, by simp [Hid], rfl⟩
  case round =>
    obtain ⟨k, hk, rfl, hno, rfl⟩ := hrel
    by_cases hlt : k < ks.length
    · obtain ⟨b, o, x, rfl, hxk, hc0, hc1⟩ := H3.out k hlt
      have x2 : decide ((k : Int) < (ks.length : Int)) = true := by simpa using hlt
      have HBAD := Lib.hid (fun (h : badKind x = true) => show isKindsB ks = false by unfold isKindsB; rw [any_of_at badKind hxk.out h]; simp)
      have HOK := Lib.hid (fun (h : badKind x = false) => show (ks.take (k + 1)).any badKind = false by rw [any_take_succ _ hxk.out, hno.out, h]; rfl)
      cases hh : inB x.holds 1 36 with
      | false =>
        have HI := Lib.hid (fun w1 => hh ▸ rin_any x.holds 1 36 w1)
        have HN := Lib.hid (HBAD.out (by unfold badKind; rw [hh]; rfl))
        clear hh
        go_wp2_with (go_at_call 98; refine (HI.out _).mono ?_; rintro e w' ⟨rfl, rfl⟩)
        go_ret
        exact ⟨by rw [HN.out] <;> rfl, rfl⟩
      | true =>
        cases hm : inB x.many 0 20 with
        | false =>
          have HN := Lib.hid (HBAD.out (by unfold badKind; rw [hm]; simp))
          go_wp2_with (go_at_call 98; refine (rin_any _ _ _ _).mono ?_; rintro e w' ⟨rfl, rfl⟩)
          go_ret
          exact ⟨by rw [HN.out] <;> rfl, rfl⟩
        | true =>
          have HN := Lib.hid (HOK.out (by unfold badKind; rw [hh, hm]; rfl))
          go_wp2_with (go_at_call 98; refine (rin_any _ _ _ _).mono ?_; rintro e w' ⟨rfl, rfl⟩)
          go_roundw
          case rel => exact ⟨k + 1, by omega, by go_num, HN.out, by trivial⟩
          case measure => simp [intOf]; omega
    · have hke : k = ks.length := by omega
      have x2 : decide ((k : Int) < (ks.length : Int)) = false := by simp; omega
      have HN : Hid (isKindsB ks = inB ks.length 1 4) := by
        have h := hno.out
        rw [List.take_of_length_le (by omega)] at h
        unfold Hid isKindsB; rw [h]; simp
      clear hke
      go_wp2_with (go_at_call 98; refine (rin_any _ _ _ _).mono ?_; rintro e w' ⟨rfl, rfl⟩)
      go_ret
      exact ⟨by rw [HN.out] <;> rfl, rfl⟩

/-! ### fill -/
def accL (acc : Found) : List Int := match acc with | none => [] | some p => p.1
def AccOk (acc : Found) : Prop := ∀ p, acc = some p → p.2 = p.1.sum ∧ (∀ x, x ∈ p.1 → 0 ≤ x ∧ x ≤ 20) ∧ p.1.length ≤ 4
theorem accOk_go : ∀ (ks : List Kind) (now : List Int) (left : Int) (acc : Found), (∀ k, k ∈ ks → badKind k = false) → now.length + ks.length ≤ 4 → (∀ x, x ∈ now → 0 ≤ x ∧ x ≤ 20) → 0 ≤ left → AccOk acc → AccOk (fillGo ks now left now.sum acc)
  | [], now, left, acc, _, hl, hn, _, ha => by
    unfold fillGo
    split
    · intro p hp
      cases hp
      exact ⟨rfl, hn, by simpa using hl⟩
    · exact ha
  | k :: ks, now, left, acc, hk, hl, hn, h0, ha => by
    have hgood := hk k (List.mem_cons_self ..)
    obtain ⟨⟨hh1, hh2⟩, hm1, hm2⟩ : (1 ≤ k.holds ∧ k.holds ≤ 36) ∧ (0 ≤ k.many ∧ k.many ≤ 20) := by
      simp only [badKind, Bool.or_eq_false_iff, Bool.not_eq_false', inB_iff] at hgood
      exact hgood
    have key : ∀ j, j ≤ cntOf k left → AccOk (fillUpto k ks now left now.sum acc j) := by
      intro j
      induction j with
      | zero => intro _; exact ha
      | succ j ih =>
        intro hj
        rw [fillUpto_succ]
        obtain ⟨u1, u2⟩ := (cntOf_lt (k := k) (left := left) (j := j) hh1 hm1 h0).1 (by omega)
        have := accOk_go ks (now ++ [(j : Int)]) (left - j * k.holds) (fillUpto k ks now left now.sum acc j) (fun k hk' => hk k (List.mem_cons_of_mem _ hk')) (by simp at hl ⊢; omega)
          (fun x hx => by
            rcases List.mem_append.1 hx with h | h
            · exact hn x h
            · obtain rfl : x = j := by simpa using h
              omega) (by omega) (ih (by omega))
        rw [List.sum_append] at this
        simpa using this
    rw [← fillUpto_all]
    exact key _ (Nat.le_refl _)

def RFillRes (w : World) (acc : Found) (e : Ending) (w' : World) : Prop := ∃ bv, e = .returned (.tuple #[bv, .bool acc.isSome]) ∧ Ext w w' ∧ IntsAt w' bv (accL acc)
/-- The contract of fill, with the kinds ks left. -/
def RFillCall (K : List Kind) (w0 : World) (kv : Value) (ks : List Kind) : Prop :=
  ∀ (nowv bv : Value) (now : List Int) (left : Int) (A : World) (acc : Found), Ext w0 A → now.length + ks.length = K.length → K.drop now.length = ks → 0 ≤ left → left ≤ 3000 → (∀ x, x ∈ now → 0 ≤ x ∧ x ≤ 20) → AccOk acc →
    IntsAt A nowv now → IntsAt A bv (accL acc) → Calls Tryz.prog 131 #[kv, .int .i64 left, nowv, bv, .bool acc.isSome] A (RFillRes A (fillGo ks now left now.sum acc))
set_option maxRecDepth 100000 in
set_option maxHeartbeats 4000000 in
theorem rfill_leaf (K : List Kind) (w0 : World) (kv : Value) (hk : KindsAt w0 kv K) (hK : K.length ≤ 4) : RFillCall K w0 kv [] := by
  intro nowv bv now left A acc hx0 hlen _ hl0 hl1 hn ha hN hV
  obtain ⟨a, c, rfl, r1, r2, r3⟩ := hk.open
  obtain ⟨na, nc, rfl, n1, n2, n3⟩ := hN.open
  obtain ⟨bl, hbl⟩ : ∃ bl, accL acc = bl := ⟨_, rfl⟩
  rw [hbl] at hV
  obtain ⟨ba, bc, rfl, b1, b2, b3⟩ := hV.open
  have t1 : ((now.length : Int) == (K.length : Int)) = true := by rw [beq_iff_eq]; simp at hlen; omega
  have t2 : (now.length == K.length) = true := by rw [beq_iff_eq]; simpa using hlen
  have HN := Lib.hid hN
  have HV := Lib.hid hV
  have HSN := Lib.hid (fun w1 (hx : Ext A w1) => rsum_any _ now w1 (hN.ext hx) (fun x hx => by have := hn x hx; omega) (by simp at hlen; omega))
  obtain ⟨res, hres⟩ : ∃ res, fillGo [] now left now.sum acc = res := ⟨_, rfl⟩
  rw [hres]
  unfold fillGo at hres
  clear hN hV hn hk hx0 r3 n3 b3 hlen
  by_cases hz : left = 0
  · subst hz
    cases acc with
    | none =>
      rw [if_pos ⟨rfl, rfl⟩] at hres
      have HF : Hid (RFillRes A res (.returned (.tuple #[.slice na now.length nc, .bool true])) A) := by
        rw [← hres]; exact ⟨_, rfl, Ext.refl _, HN.out⟩
      clear hres hbl ha
      simp only [Option.isSome_none]
      go_enter Tryz.func131, Tryz.ntmps131
      go_wp2
      go_ret2
      exact HF.out
    | some p =>
      obtain ⟨pl, pn⟩ := p
      have hbl' : pl = bl := hbl
      subst hbl'
      clear hbl
      obtain ⟨hp1, hp2, hp3⟩ := ha _ rfl
      simp only at hp1 hp2 hp3
      subst hp1
      have HSB := Lib.hid (fun w1 (hx : Ext A w1) => rsum_any _ pl w1 (HV.out.ext hx) (fun x hx => by have := hp2 x hx; omega) (by omega))
      have tok1 : True := trivial
      clear hp2 ha
      simp only [Option.isSome_some]
      cases hd : decide (now.sum < pl.sum) with
      | true =>
        have hd' : now.sum < pl.sum := of_decide_eq_true hd
        rw [if_pos ⟨rfl, by simpa [fewerB] using hd'⟩] at hres
        have HF : Hid (RFillRes A res (.returned (.tuple #[.slice na now.length nc, .bool true])) A) := by
          rw [← hres]; exact ⟨_, rfl, Ext.refl _, HN.out⟩
        clear hres hd'
        generalize now.sum = ns at *
        generalize pl.sum = ps at *
        go_enter Tryz.func131, Tryz.ntmps131
        go_wp2_with (first
          | (go_at_call 64; have _t := tok1; refine (HSN.out _ (Ext.refl _)).mono ?_; rintro e w' ⟨rfl, rfl⟩; clear tok1 _t)
          | (go_at_call 64; refine (HSB.out _ (Ext.refl _)).mono ?_; rintro e w' ⟨rfl, rfl⟩))
        go_ret2
        exact HF.out
      | false =>
        have hd' : ¬ now.sum < pl.sum := of_decide_eq_false hd
        rw [if_neg (fun h => hd' (by simpa [fewerB] using h.2))] at hres
        have HF : Hid (RFillRes A res (.returned (.tuple #[.slice ba pl.length bc, .bool true])) A) := by
          rw [← hres]; exact ⟨_, rfl, Ext.refl _, HV.out⟩
        clear hres hd'
        generalize now.sum = ns at *
        generalize pl.sum = ps at *
        go_enter Tryz.func131, Tryz.ntmps131
        go_wp2_with (first
          | (go_at_call 64; have _t := tok1; refine (HSN.out _ (Ext.refl _)).mono ?_; rintro e w' ⟨rfl, rfl⟩; clear tok1 _t)
          | (go_at_call 64; refine (HSB.out _ (Ext.refl _)).mono ?_; rintro e w' ⟨rfl, rfl⟩))
        go_ret2
        exact HF.out
  · have tz : (left == 0) = false := by rw [beq_eq_false_iff_ne]; exact hz
    rw [if_neg (fun h => hz h.1)] at hres
    have HF : Hid (RFillRes A res (.returned (.tuple #[.slice ba bl.length bc, .bool acc.isSome])) A) := by
      rw [← hres]; exact ⟨_, rfl, Ext.refl _, by rw [hbl]; exact HV.out⟩
    clear hbl ha hres hz
    generalize acc.isSome = fb at *
    go_enter Tryz.func131, Tryz.ntmps131
    go_wp2
    go_ret2
    exact HF.out
end Go.Proofs.YtjbeiclfggjbmaaGreatDoor
