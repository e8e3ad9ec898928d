/- The law CardFilled: the reference's Fills and Before. -/
import Derived.Test.YtjbeiclfggjbmaaGreatDoorFillsb
import Derived.Test.YtjbeiclfggjbmaaGreatDoorFillspec
import Derived.Deep.QuietTactic
import Derived.BigQuiet
namespace Go.Proofs.YtjbeiclfggjbmaaGreatDoor
open Go.RowKit

/-! ### In plain Lean -/
def dotK : List Kind → List Int → Int
  | k :: ks, n :: l => n * k.holds + dotK ks l
  | _, _ => 0
def manyB : List Kind → List Int → Bool
  | k :: ks, n :: l => inB n 0 k.many && manyB ks l
  | _, _ => true
def fillsB (ks : List Kind) (b : Int) (l : List Int) : Bool := decide (l.length = ks.length) && manyB ks l && decide (dotK ks l = b)
theorem fillsB_parts (ks : List Kind) (b : Int) (l : List Int) : fillsB ks b l = true ↔ l.length = ks.length ∧ manyB ks l = true ∧ dotK ks l = b := by
  unfold fillsB
  rw [Bool.and_eq_true, Bool.and_eq_true, decide_eq_true_eq, decide_eq_true_eq, and_assoc]
theorem fillsB_iff : ∀ {ks : List Kind} {b : Int} {l : List Int}, fillsB ks b l = true ↔ fillsP ks b l
  | [], b, [] => by
    rw [fillsB_parts]; unfold fillsP
    exact ⟨fun h => h.2.2.symm, fun h => ⟨rfl, rfl, h.symm⟩⟩
  | [], b, _ :: _ => by rw [fillsB_parts]; unfold fillsP; simp
  | _ :: _, b, [] => by rw [fillsB_parts]; unfold fillsP; simp
  | k :: ks, b, n :: l => by
    have ih := @fillsB_iff ks (b - n * k.holds) l
    unfold fillsP
    rw [← ih, fillsB_parts, fillsB_parts]
    have e1 : dotK (k :: ks) (n :: l) = n * k.holds + dotK ks l := rfl
    have e2 : manyB (k :: ks) (n :: l) = (inB n 0 k.many && manyB ks l) := rfl
    rw [e1, e2, Bool.and_eq_true, inB_iff, List.length_cons, List.length_cons]
    constructor
    · rintro ⟨h1, ⟨h2, h3⟩, h4⟩; exact ⟨h2.1, h2.2, by omega, h3, by omega⟩
    · rintro ⟨h1, h2, h3, h4, h5⟩; exact ⟨by omega, ⟨⟨h1, h2⟩, h4⟩, by omega⟩
theorem manyB_take {ks : List Kind} : ∀ {l : List Int} {k : Nat} {x : Kind} {n : Int}, ks[k]? = some x → l[k]? = some n → manyB (ks.take (k + 1)) (l.take (k + 1)) = (manyB (ks.take k) (l.take k) && inB n 0 x.many) := by
  induction ks with
  | nil => intro l k x n h; simp at h
  | cons y ks ih =>
    intro l k x n hx hn
    cases l with
    | nil => simp at hn
    | cons m l =>
      cases k with
      | zero => simp at hx hn; subst hx hn; simp [manyB]
      | succ k =>
        simp at hx hn
        simp only [List.take_succ_cons, manyB]
        rw [ih hx hn, Bool.and_assoc]
theorem dotK_take {ks : List Kind} : ∀ {l : List Int} {k : Nat} {x : Kind} {n : Int}, ks[k]? = some x → l[k]? = some n → dotK (ks.take (k + 1)) (l.take (k + 1)) = dotK (ks.take k) (l.take k) + n * x.holds := by
  induction ks with
  | nil => intro l k x n h; simp at h
  | cons y ks ih =>
    intro l k x n hx hn
    cases l with
    | nil => simp at hn
    | cons m l =>
      cases k with
      | zero => simp at hx hn; subst hx hn; simp [dotK]
      | succ k =>
        simp at hx hn
        simp only [List.take_succ_cons, dotK]
        rw [ih hx hn, Int.add_assoc]
theorem manyB_bad {ks : List Kind} : ∀ {l : List Int} {k : Nat} {x : Kind} {n : Int}, ks[k]? = some x → l[k]? = some n → inB n 0 x.many = false → manyB ks l = false := by
  induction ks with
  | nil => intro l k x n h; simp at h
  | cons y ks ih =>
    intro l k x n hx hn hb
    cases l with
    | nil => simp at hn
    | cons m l =>
      cases k with
      | zero => simp at hx hn; subst hx hn; simp [manyB, hb]
      | succ k =>
        simp at hx hn
        simp [manyB, ih hx hn hb]
theorem dotK_bd {ks : List Kind} : ∀ {l : List Int}, (∀ k, k ∈ ks → badKind k = false) → manyB ks l = true → 0 ≤ dotK ks l ∧ dotK ks l ≤ 720 * ks.length := by
  induction ks with
  | nil => intro l _ _; simp [dotK]
  | cons y ks ih =>
    intro l hk hm
    cases l with
    | nil => simp [dotK]; omega
    | cons m l =>
      simp only [manyB, Bool.and_eq_true] at hm
      obtain ⟨h1, h2⟩ := hm
      have h1 := inB_iff.1 h1
      have h3 := ih (l := l) (fun k h => hk k (List.mem_cons_of_mem _ h)) h2
      obtain ⟨⟨a1, a2⟩, b1, b2⟩ := kind_ok (hk y (List.mem_cons_self ..))
      have h4 : 0 ≤ m * y.holds := Int.mul_nonneg h1.1 (by omega)
      have h5 : m * y.holds ≤ 20 * 36 := Int.mul_le_mul (by omega) a2 (by omega) (by omega)
      simp only [dotK, List.length_cons]
      omega
theorem manyB_mem {ks : List Kind} : ∀ {l : List Int}, (∀ k, k ∈ ks → badKind k = false) → l.length = ks.length → manyB ks l = true → ∀ x, x ∈ l → 0 ≤ x ∧ x ≤ 1000000 := by
  induction ks with
  | nil => intro l _ h _ x hx; simp at h; subst h; simp at hx
  | cons y ks ih =>
    intro l hk h hm x hx
    cases l with
    | nil => simp at h
    | cons m l =>
      simp only [manyB, Bool.and_eq_true] at hm
      obtain ⟨⟨a1, a2⟩, b1, b2⟩ := kind_ok (hk y (List.mem_cons_self ..))
      have h1 := inB_iff.1 hm.1
      rcases List.mem_cons.1 hx with rfl | h2
      · omega
      · exact ih (fun k h => hk k (List.mem_cons_of_mem _ h)) (by simpa using h) hm.2 x h2
theorem befB_at : ∀ {a b : List Int} {k : Nat} {x y : Int}, a.take k = b.take k → a[k]? = some x → b[k]? = some y → x ≠ y → befB a b = decide (x < y)
  | [], _, k, x, y, _, h, _, _ => by simp at h
  | _ :: _, [], k, x, y, _, _, h, _ => by simp at h
  | p :: a, q :: b, 0, x, y, _, hx, hy, hn => by
    simp at hx hy; subst hx hy
    unfold befB; rw [if_neg hn]
  | p :: a, q :: b, k + 1, x, y, h, hx, hy, hn => by
    simp only [List.take_succ_cons, List.cons.injEq] at h
    simp at hx hy
    obtain ⟨rfl, h⟩ := h
    unfold befB; rw [if_pos rfl]
    exact befB_at h hx hy hn
theorem befB_end : ∀ {a b : List Int} {k : Nat}, a.take k = b.take k → (k = a.length ∨ k = b.length) → k ≤ a.length → k ≤ b.length → befB a b = decide (a.length < b.length)
  | [], b, _, _, _, _, _ => by unfold befB; rfl
  | _ :: _, [], _, _, _, _, _ => by unfold befB; rfl
  | p :: a, q :: b, 0, _, h, _, _ => by simp at h
  | p :: a, q :: b, k + 1, h, he, h1, h2 => by
    simp only [List.take_succ_cons, List.cons.injEq] at h
    obtain ⟨rfl, h⟩ := h
    unfold befB; rw [if_pos rfl, befB_end h (by simp at he; omega) (by simp at h1; omega) (by simp at h2; omega)]
    simp

/-! ### Their walks -/
set_option maxHeartbeats 2000000 in
theorem rbefore_any (v v' : Value) (xs ys : List Int) (w : World) (hv : IntsAt w v xs) (hv' : IntsAt w v' ys) :
    Calls Tryz.prog 55 #[v, v'] w fun e w' => e = .returned (.bool (befB xs ys)) ∧ Ext w w' := by
  obtain ⟨a, c, rfl, h1, h2, h3⟩ := hv.open
  obtain ⟨a', c', rfl, h1', h2', h3'⟩ := hv'.open
  have hmix : Tryz.prog.follows .mixedOrders = true := by kernel_rfl
  have H3 := Lib.hid h3
  have H3' := Lib.hid h3'
  clear h3 h3' hv hv'
  go_enter Tryz.func55, Tryz.ntmps55
  go_wp2
  go_loopw [5] (fun i wr => ∃ k : Nat, k ≤ xs.length ∧ k ≤ ys.length ∧ i = .int .i64 k ∧ Hid (xs.take k = ys.take k) ∧ Ext w wr) (fun i _ => xs.length - (intOf i).toNat)
  case atStart => exact ⟨0, Nat.zero_le _, Nat.zero_le _, rfl, by simp [Hid], Ext.refl _⟩
  case round =>
    obtain ⟨k, hk, hk', rfl, hE, hx⟩ := hrel
    by_cases hlt : k < xs.length
    · have x2 : decide ((k : Int) < (xs.length : Int)) = true := by simpa using hlt
      by_cases hlt' : k < ys.length
      · have x3 : decide ((k : Int) < (ys.length : Int)) = true := by simpa using hlt'
        obtain ⟨b, o, x, rfl, hxk, hc⟩ := H3.out k hlt
        obtain ⟨b', o', y, rfl, hyk, hc'⟩ := H3'.out k hlt'
        have d0 := hx.cell hc
        have d1 := hx.cell hc'
        clear hc hc'
        by_cases hxy : x = y
        · subst hxy
          have hs := Lib.hid (take_eq_succ hE.out hxk.out hyk.out rfl)
          go_wp2
          go_quiet (fail)
          go_wp2
          exact ⟨⟨k + 1, by omega, by omega, by go_num, hs.out, hx.drewN _⟩, by simp [intOf]; omega⟩
        · have HB := Lib.hid (befB_at hE.out hxk.out hyk.out hxy)
          have t4 : (x == y) = false := by simpa using hxy
          have t5 : (x != y) = true := by simpa using hxy
          clear hxy
          go_wp2
          go_quiet (fail)
          go_wp2
          go_quiet (fail)
          go_wp2
          go_ret
          exact ⟨by rw [HB.out] <;> rfl, by first | exact hx.drewN _ | exact (hx.drewN _).drewN _⟩
      · have hke : k = ys.length := by omega
        have x3 : decide ((k : Int) < (ys.length : Int)) = false := by simp; omega
        have HB := Lib.hid (befB_end hE.out (.inr hke) hk hk')
        have HD : Hid (decide (xs.length < ys.length) = decide ((xs.length : Int) < (ys.length : Int))) := by unfold Hid; simp
        clear hke
        go_wp2
        go_ret
        exact ⟨by rw [HB.out, HD.out] <;> rfl, hx⟩
    · have hke : k = xs.length := by omega
      have x2 : decide ((k : Int) < (xs.length : Int)) = false := by simp; omega
      have HB := Lib.hid (befB_end hE.out (.inl hke) hk hk')
      have HD : Hid (decide (xs.length < ys.length) = decide ((xs.length : Int) < (ys.length : Int))) := by unfold Hid; simp
      clear hke
      go_wp2
      go_ret
      exact ⟨by rw [HB.out, HD.out] <;> rfl, hx⟩
set_option maxRecDepth 100000 in
set_option maxHeartbeats 2000000 in
theorem rfills_any (v lv : Value) (ks : List Kind) (b : Int) (l : List Int) (w : World) (hk : KindsAt w v ks) (hl : IntsAt w lv l) (hgood : ∀ k, k ∈ ks → badKind k = false) (hK : ks.length ≤ 4) :
    Calls Tryz.prog 65 #[v, .int .i64 b, lv] w fun e w' => e = .returned (.bool (fillsB ks b l)) ∧ Ext w w' := by
  obtain ⟨a, c, rfl, h1, h2, h3⟩ := hk.open
  obtain ⟨a', c', rfl, h1', h2', h3'⟩ := hl.open
  have hmix : Tryz.prog.follows .mixedOrders = true := by kernel_rfl
  have H3 := Lib.hid h3
  have H3' := Lib.hid h3'
  have HG := Lib.hid hgood
  clear h3 h3' hk hl hgood
  by_cases hln : l.length = ks.length
  · have t0 : (l.length == ks.length) = true := by simpa using hln
    have t1 : ((l.length : Int) != (ks.length : Int)) = false := by simp [hln]
    have HLN := Lib.hid hln
    clear hln
    go_enter Tryz.func65, Tryz.ntmps65
    go_wp2
    go_loopw [7, 8] (fun s i wr => ∃ k : Nat, k ≤ ks.length ∧ i = .int .i64 k ∧ s = .int .i64 (dotK (ks.take k) (l.take k)) ∧ Hid (manyB (ks.take k) (l.take k) = true) ∧ Ext w wr) (fun _ i _ => ks.length - (intOf i).toNat)
    case atStart => exact ⟨0, Nat.zero_le _, rfl, by simp [dotK], by simp [Hid, manyB], Ext.refl _⟩
    case round =>
      obtain ⟨k, hk, rfl, rfl, hM, hx⟩ := hrel
      have hd := dotK_bd (ks := ks.take k) (l := l.take k) (fun k' h => HG.out k' (List.mem_of_mem_take h)) hM.out
      have htl : (ks.take k).length ≤ 4 := by simp; omega
      by_cases hlt : k < ks.length
      · obtain ⟨kb, ko, x, rfl, hxk, hc0, hc1⟩ := H3.out k hlt
        obtain ⟨lb, lo, n, rfl, hnk, hc⟩ := H3'.out k (by rw [HLN.out]; exact hlt)
        have x2 : decide ((k : Int) < (ks.length : Int)) = true := by simpa using hlt
        have x3 : k < l.length := by rw [HLN.out]; exact hlt
        have x4 : (k : Int) < (l.length : Int) := by omega
        have x5 : (k : Int) < (ks.length : Int) := by omega
        obtain ⟨⟨a1, a2⟩, b1, b2⟩ := kind_ok (HG.out x (List.mem_of_getElem? hxk.out))
        have d0 := hx.cell hc0
        have d1 := hx.cell hc1
        have d2 := hx.cell hc
        have HD := Lib.hid (dotK_take hxk.out hnk.out)
        have HMT := Lib.hid (manyB_take hxk.out hnk.out)
        generalize dotK (ks.take k) (l.take k) = d at *
        clear hc0 hc1 hc
        cases hin : inB n 0 x.many with
        | false =>
          have HI := Lib.hid (fun w1 => hin ▸ rin_any n 0 x.many w1)
          have HF : Hid (fillsB ks b l = false) := by
            unfold Hid fillsB; rw [manyB_bad hxk.out hnk.out hin]; simp
          clear hin
          go_upto_region 7 with fail
          go_region_held3 (fun w' => w'.cell? ⟨lb, lo + k, none⟩ = some (.int .i64 n) ∧ w'.cell? ⟨kb, ko + k * 2 + 1, none⟩ = some (.int .i64 x.many)) (first | go_keep)
            (first | (go_at_call 98; refine (HI.out _).mono ?_; rintro e w' ⟨rfl, rfl⟩))
          go_wp2
          go_ret
          exact ⟨by rw [HF.out] <;> rfl, hx.drew⟩
        | true =>
          have HI := Lib.hid (fun w1 => hin ▸ rin_any n 0 x.many w1)
          have hnb := inB_iff.1 hin
          have HMN : Hid (manyB (ks.take (k + 1)) (l.take (k + 1)) = true) := by unfold Hid; rw [HMT.out, hM.out, hin]; rfl
          have hp0 : 0 ≤ n * x.holds := Int.mul_nonneg hnb.1 (by omega)
          have hp1 : n * x.holds ≤ 20 * 36 := Int.mul_le_mul (by omega) a2 (by omega) (by omega)
          have E1 : IntKind.i64.wrap (n * x.holds) = n * x.holds := wrap_id (by omega) (by omega)
          have E2 : IntKind.i64.wrap (d + n * x.holds) = d + n * x.holds := wrap_id (by omega) (by omega)
          clear hin hnb
          go_upto_region 7 with fail
          go_region_held3 (fun w' => w'.cell? ⟨lb, lo + k, none⟩ = some (.int .i64 n) ∧ w'.cell? ⟨kb, ko + k * 2 + 1, none⟩ = some (.int .i64 x.many)) (first | go_keep)
            (first | (go_at_call 98; refine (HI.out _).mono ?_; rintro e w' ⟨rfl, rfl⟩))
          go_wp2
          go_quiet (fail)
          clear E1 E2
          go_wp2
          exact ⟨⟨k + 1, by omega, by go_num, by rw [HD.out], HMN.out, by first | exact hx.drew | exact hx.drewN _ | exact (hx.drew).drewN _ | exact hx.drew.drew⟩, by simp [intOf]; omega⟩
      · have hke : k = ks.length := by omega
        have x2 : decide ((k : Int) < (ks.length : Int)) = false := by simp; omega
        have HF : Hid (fillsB ks b l = (dotK (ks.take k) (l.take k) == b)) := by
          have h := hM.out
          rw [List.take_of_length_le (by omega), List.take_of_length_le (by have := HLN.out; omega)] at h
          rw [List.take_of_length_le (by omega), List.take_of_length_le (by have := HLN.out; omega)]
          unfold Hid fillsB; rw [h, HLN.out]
          simp
          rfl
        clear hke
        go_wp2
        go_ret
        exact ⟨by rw [HF.out] <;> rfl, hx⟩
  · have t0 : (l.length == ks.length) = false := by simpa using hln
    have t1 : ((l.length : Int) == (ks.length : Int)) = false := by rw [beq_eq_false_iff_ne]; omega
    have t2 : (l.length != ks.length) = true := by simpa using hln
    have t3 : ((l.length : Int) != (ks.length : Int)) = true := by rw [bne_iff_ne]; omega
    have HF : Hid (fillsB ks b l = false) := by unfold Hid fillsB; simp [hln]
    clear hln
    go_enter Tryz.func65, Tryz.ntmps65
    go_wp2
    go_ret
    exact ⟨by rw [HF.out] <;> rfl, Ext.refl _⟩

set_option maxRecDepth 100000 in
set_option maxHeartbeats 4000000 in
theorem cardFilled_any (v : Value) (ks : List Kind) (buttons : Int) (ov : Value) (other : List Int) (w : World) (hk : KindsAt w v ks) (ho : IntsAt w ov other) (ht : TabOk w) :
    Calls Tryz.prog 12 #[v, .int .i64 buttons, ov] w (TrueP w) := by
  have HL := Lib.hid (fun w1 (hx : Ext w w1) => lknown_any w1 (ht.ext hx))
  have HRK := Lib.hid (fun w1 (hx : Ext w w1) => rkinds_any v ks w1 (hk.ext hx))
  have HFN := Lib.hid (fun (h : isKindsB ks = true ∧ inB buttons 0 3000 = true) (hf : fillOf ks buttons = none) w1 (hx : Ext w w1) => fill_none (hk.ext hx) h hf)
  have HFS := Lib.hid (fun (h : isKindsB ks = true ∧ inB buttons 0 3000 = true) x n (hf : fillOf ks buttons = some (x, n)) w1 (hx : Ext w w1) => fill_some (hk.ext hx) h hf)
  have HFI := Lib.hid (fun (h : isKindsB ks = true) lv l w1 (hx : Ext w w1) (hl : IntsAt w1 lv l) => rfills_any v lv ks buttons l w1 (hk.ext hx) hl (kindsB_of h).1 (kindsB_of h).2.2)
  have HO := Lib.hid (fun w1 (hx : Ext w w1) => ho.ext hx)
  obtain ⟨a, c, rfl, h1, h2, _⟩ := hk.open
  obtain ⟨a', c', rfl, h1', h2', _⟩ := ho.open
  clear hk ht ho
  by_cases hl : 6 < ks.length
  · have t0 : decide ((6 : Int) < (ks.length : Int)) = true := by simp; omega
    go_enter Tryz.func12, Tryz.ntmps12
    go_wp2_with (go_at_call 25; refine (HL.out _ (Ext.refl _)).mono ?_; rintro e w1 ⟨rfl, hx1⟩)
    go_ret
    exact ⟨rfl, hx1⟩
  · have t0 : decide ((6 : Int) < (ks.length : Int)) = false := by simp; omega
    by_cases hl' : 6 < other.length
    · have t0' : decide ((6 : Int) < (other.length : Int)) = true := by simp; omega
      go_enter Tryz.func12, Tryz.ntmps12
      go_wp2_with (go_at_call 25; refine (HL.out _ (Ext.refl _)).mono ?_; rintro e w1 ⟨rfl, hx1⟩)
      go_ret
      exact ⟨rfl, hx1⟩
    · have t0' : decide ((6 : Int) < (other.length : Int)) = false := by simp; omega
      have hol : other.length ≤ 6 := by omega
      clear hl hl'
      cases hK : isKindsB ks with
      | false =>
        rw [hK] at HRK
        clear hK
        go_enter Tryz.func12, Tryz.ntmps12
        go_wp2_with (first
          | (go_at_call 61; refine (HRK.out _ (Ext.refl _)).mono ?_; rintro e w' ⟨rfl, rfl⟩)
          | (go_at_call 25; refine (HL.out _ (Ext.refl _)).mono ?_; rintro e w2 ⟨rfl, hx2⟩))
        go_ret
        exact ⟨rfl, hx2⟩
      | true =>
        rw [hK] at HRK
        cases hb : inB buttons 0 3000 with
        | false =>
          have HOR := Lib.hid (fun w1 => hb ▸ rorder_any buttons w1)
          clear hK hb
          go_enter Tryz.func12, Tryz.ntmps12
          go_wp2_with (first
            | (go_at_call 61; refine (HRK.out _ (Ext.refl _)).mono ?_; rintro e w' ⟨rfl, rfl⟩)
            | (go_at_call 62; refine (HOR.out _).mono ?_; rintro e w' ⟨rfl, rfl⟩)
            | (go_at_call 25; refine (HL.out _ (Ext.refl _)).mono ?_; rintro e w2 ⟨rfl, hx2⟩))
          go_ret
          exact ⟨rfl, hx2⟩
        | true =>
          have HOR := Lib.hid (fun w1 => hb ▸ rorder_any buttons w1)
          have HG := Lib.hid (show isKindsB ks = true ∧ inB buttons 0 3000 = true from ⟨hK, hb⟩)
          have hkg := (kindsB_of hK).1
          have hb0 := (inB_iff.1 hb).1
          have HBEST := Lib.hid (fun (h : fillsB ks buttons other = true) => fillOf_best hkg hb0 (fillsB_iff.1 h))
          have HSND := Lib.hid (fun p (h : fillOf ks buttons = some p) => fillOf_sound hkg hb0 h)
          have HOB := Lib.hid (fun (h : fillsB ks buttons other = true) => show ∀ x, x ∈ other → 0 ≤ x ∧ x ≤ 1000000 from fun x hx => manyB_mem hkg ((fillsB_parts _ _ _).1 h).1 ((fillsB_parts _ _ _).1 h).2.1 x hx)
          clear hK hb hkg hb0
          cases hf : fillOf ks buttons with
          | none =>
            have HF := Lib.hid hf
            have HNO : Hid (fillsB ks buttons other = false) := by
              unfold Hid
              cases q : fillsB ks buttons other with
              | false => rfl
              | true => obtain ⟨p, h1, _⟩ := HBEST.out q; rw [hf] at h1; cases h1
            clear hf
            go_enter Tryz.func12, Tryz.ntmps12
            go_wp2_with (first
              | (go_at_call 61; refine (HRK.out _ (Ext.refl _)).mono ?_; rintro e w' ⟨rfl, rfl⟩)
              | (go_at_call 62; refine (HOR.out _).mono ?_; rintro e w' ⟨rfl, rfl⟩)
              | (go_at_call 60; refine (HFN.out HG.out HF.out _ (Ext.refl _)).mono ?_; rintro e w1 ⟨rfl, hx1⟩)
              | (go_at_call 65; refine (HFI.out HG.out.1 _ other _ hx1 (HO.out _ hx1)).mono ?_; rw [HNO.out]; rintro e w2 ⟨rfl, hx2⟩; have hx12 := hx1.trans hx2)
              | (go_at_call 25; refine (HL.out _ hx12).mono ?_; rintro e w3 ⟨rfl, hx3⟩))
            go_ret
            exact ⟨rfl, hx12.trans hx3⟩
          | some p =>
            obtain ⟨x, n⟩ := p
            have hok := fillOf_ok HG.out hf
            have hs := HSND.out _ hf
            have HSX := Lib.hid (show fillsB ks buttons x = true from fillsB_iff.2 hs.1)
            have HF := Lib.hid hf
            have HOK := Lib.hid hok
            have HXS := Lib.hid (show ∀ w1 u, IntsAt w1 u x → Calls Tryz.prog 64 #[u] w1 fun e w' => e = .returned (.int .i64 x.sum) ∧ w1 = w' from fun w1 u hu => rsum_any u x w1 hu (fun z hz => by have := HOK.out.2.1 z hz; omega) (by have h : x.length ≤ 4 := HOK.out.2.2; omega))
            have key : fillsB ks buttons other = false ∨ (fillsB ks buttons other = true ∧ decide (x.sum < other.sum) = true) ∨ (fillsB ks buttons other = true ∧ x.sum = other.sum ∧ befB other x = false) := by
              cases q : fillsB ks buttons other with
              | false => exact .inl rfl
              | true =>
                obtain ⟨p, h1, h2⟩ := HBEST.out q
                rw [hf] at h1
                cases h1
                simp only at h2
                have hn : n = x.sum := hok.1
                rw [hn] at h2
                rcases h2 with h2 | h2
                · exact .inr (.inl ⟨rfl, by simpa using h2⟩)
                · exact .inr (.inr ⟨rfl, h2⟩)
            clear hf hok hs
            have hx6 : x.length ≤ 6 := by have h : x.length ≤ 4 := HOK.out.2.2; omega
            have x6 : decide ((6 : Int) < (x.length : Int)) = false := by simp; omega
            rcases key with HQ | ⟨HQ, HLT⟩ | ⟨HQ, HEQ, HBF⟩
            · replace HQ := Lib.hid HQ
              have tok1 : True := trivial
              go_enter Tryz.func12, Tryz.ntmps12
              go_wp2_with (first
                | (go_at_call 61; refine (HRK.out _ (Ext.refl _)).mono ?_; rintro e w' ⟨rfl, rfl⟩)
                | (go_at_call 62; refine (HOR.out _).mono ?_; rintro e w' ⟨rfl, rfl⟩)
                | (go_at_call 60; refine (HFS.out HG.out x n HF.out _ (Ext.refl _)).mono ?_; rintro e w1 ⟨a1, m1, c1, rfl, rfl, hmc1, hc1, hx1, hi1⟩; have HI1 := Lib.hid hi1; clear hi1)
                | (go_at_call 65; have _t := tok1; refine (HFI.out HG.out.1 _ other _ hx1 (HO.out _ hx1)).mono ?_; rw [HQ.out]; rintro e w2 ⟨rfl, hx2⟩; have hx12 := hx1.trans hx2; clear tok1 _t)
                | (go_at_call 65; refine (HFI.out HG.out.1 _ x _ hx12 (HI1.out.ext hx2)).mono ?_; rw [HSX.out]; rintro e w3 ⟨rfl, hx3⟩; have hx13 := hx12.trans hx3)
                | (go_at_call 64; refine (HXS.out _ _ ((HI1.out.ext hx2).ext hx3)).mono ?_; rintro e w' ⟨rfl, rfl⟩)
                | (go_at_call 25; refine (HL.out _ hx13).mono ?_; rintro e w4 ⟨rfl, hx4⟩))
              go_ret
              exact ⟨rfl, hx13.trans hx4⟩
            · have HSO := Lib.hid (fun w1 (hx : Ext w w1) => rsum_any _ other w1 (HO.out w1 hx) (HOB.out HQ) (by omega))
              replace HQ := Lib.hid HQ
              have tok1 : True := trivial
              have tok2 : True := trivial
              go_enter Tryz.func12, Tryz.ntmps12
              go_wp2_with (first
                | (go_at_call 61; refine (HRK.out _ (Ext.refl _)).mono ?_; rintro e w' ⟨rfl, rfl⟩)
                | (go_at_call 62; refine (HOR.out _).mono ?_; rintro e w' ⟨rfl, rfl⟩)
                | (go_at_call 60; refine (HFS.out HG.out x n HF.out _ (Ext.refl _)).mono ?_; rintro e w1 ⟨a1, m1, c1, rfl, rfl, hmc1, hc1, hx1, hi1⟩; have HI1 := Lib.hid hi1; clear hi1)
                | (go_at_call 65; have _t := tok1; refine (HFI.out HG.out.1 _ other _ hx1 (HO.out _ hx1)).mono ?_; rw [HQ.out]; rintro e w2 ⟨rfl, hx2⟩; have hx12 := hx1.trans hx2; clear tok1 _t)
                | (go_at_call 65; refine (HFI.out HG.out.1 _ x _ hx12 (HI1.out.ext hx2)).mono ?_; rw [HSX.out]; rintro e w3 ⟨rfl, hx3⟩; have hx13 := hx12.trans hx3)
                | (go_at_call 64; have _t := tok2; refine (HXS.out _ _ ((HI1.out.ext hx2).ext hx3)).mono ?_; rintro e w' ⟨rfl, rfl⟩; clear tok2 _t)
                | (go_at_call 64; refine (HSO.out _ hx13).mono ?_; rintro e w' ⟨rfl, rfl⟩)
                | (go_at_call 25; refine (HL.out _ hx13).mono ?_; rintro e w4 ⟨rfl, hx4⟩))
              go_ret
              exact ⟨rfl, hx13.trans hx4⟩
            · have HSO := Lib.hid (fun w1 (hx : Ext w w1) => HEQ ▸ rsum_any _ other w1 (HO.out w1 hx) (HOB.out HQ) (by omega))
              have HBR := Lib.hid (fun w1 (hx : Ext w w1) u (hu : IntsAt w1 u x) => HBF ▸ rbefore_any _ u other x w1 (HO.out w1 hx) hu)
              replace HQ := Lib.hid HQ
              clear HEQ HBF
              have tok1 : True := trivial
              have tok2 : True := trivial
              go_enter Tryz.func12, Tryz.ntmps12
              go_wp2_with (first
                | (go_at_call 61; refine (HRK.out _ (Ext.refl _)).mono ?_; rintro e w' ⟨rfl, rfl⟩)
                | (go_at_call 62; refine (HOR.out _).mono ?_; rintro e w' ⟨rfl, rfl⟩)
                | (go_at_call 60; refine (HFS.out HG.out x n HF.out _ (Ext.refl _)).mono ?_; rintro e w1 ⟨a1, m1, c1, rfl, rfl, hmc1, hc1, hx1, hi1⟩; have HI1 := Lib.hid hi1; clear hi1)
                | (go_at_call 65; have _t := tok1; refine (HFI.out HG.out.1 _ other _ hx1 (HO.out _ hx1)).mono ?_; rw [HQ.out]; rintro e w2 ⟨rfl, hx2⟩; have hx12 := hx1.trans hx2; clear tok1 _t)
                | (go_at_call 65; refine (HFI.out HG.out.1 _ x _ hx12 (HI1.out.ext hx2)).mono ?_; rw [HSX.out]; rintro e w3 ⟨rfl, hx3⟩; have hx13 := hx12.trans hx3)
                | (go_at_call 64; have _t := tok2; refine (HXS.out _ _ ((HI1.out.ext hx2).ext hx3)).mono ?_; rintro e w' ⟨rfl, rfl⟩; clear tok2 _t)
                | (go_at_call 64; refine (HSO.out _ hx13).mono ?_; rintro e w' ⟨rfl, rfl⟩)
                | (go_at_call 55; refine (HBR.out _ hx13 _ ((HI1.out.ext hx2).ext hx3)).mono ?_; rintro e w4 ⟨rfl, hx4⟩; have hx14 := hx13.trans hx4)
                | (go_at_call 25; refine (HL.out _ hx14).mono ?_; rintro e w5 ⟨rfl, hx5⟩))
              go_ret
              exact ⟨rfl, hx14.trans hx5⟩
end Go.Proofs.YtjbeiclfggjbmaaGreatDoor
