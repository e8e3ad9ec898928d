/- The law CardPaid: plain laws of pay; the law's paid. -/
import Derived.Test.YtjbeiclfggjbmaaGreatDoorFillsb
namespace Go.Proofs.YtjbeiclfggjbmaaGreatDoor
open Go.RowKit

/-! ### In plain Lean -/
theorem payGo_sum (rate : Int) : ∀ (kept : Int) (l : List Int), 0 ≤ kept → kept ≤ 143 → (∀ n, n ∈ l → 0 ≤ n ∧ n ≤ 3000) → (payGo rate kept l).1.sum = (kept + l.sum) / 144 * rate ∧ (payGo rate kept l).2 = (kept + l.sum) % 144
  | kept, [], h0, h1, _ => by
    have e : kept / 144 = 0 := by omega
    have e2 : kept % 144 = kept := by omega
    simp [payGo, e, e2]
  | kept, n :: l, h0, h1, hb => by
    have hn := hb n (List.mem_cons_self ..)
    obtain ⟨i1, i2⟩ := payGo_sum rate ((kept + n) % 144) l (by omega) (by omega) (fun m hm => hb m (List.mem_cons_of_mem _ hm))
    have e1 : (kept + (n + l.sum)) / 144 = (kept + n) / 144 + ((kept + n) % 144 + l.sum) / 144 := by omega
    have e2 : (kept + (n + l.sum)) % 144 = ((kept + n) % 144 + l.sum) % 144 := by omega
    simp only [payGo, List.sum_cons]
    rw [i1, i2, e1, e2, Int.add_mul]
    exact ⟨rfl, rfl⟩
theorem payGo_mem (rate : Int) (h2 : 0 ≤ rate) (h3 : rate ≤ 1000) : ∀ (kept : Int) (l : List Int), 0 ≤ kept → kept ≤ 143 → (∀ n, n ∈ l → 0 ≤ n ∧ n ≤ 3000) → ∀ x, x ∈ (payGo rate kept l).1 → 0 ≤ x ∧ x ≤ 22000
  | kept, [], _, _, _ => by simp [payGo]
  | kept, n :: l, h0, h1, hb => by
    have hn := hb n (List.mem_cons_self ..)
    have ih := payGo_mem rate h2 h3 ((kept + n) % 144) l (by omega) (by omega) (fun m hm => hb m (List.mem_cons_of_mem _ hm))
    intro x hx
    simp only [payGo, List.mem_cons] at hx
    rcases hx with rfl | hx
    · have hm : (kept + n) / 144 ≤ 22 := by omega
      have hm0 : 0 ≤ (kept + n) / 144 := by omega
      have := Int.mul_le_mul hm h3 h2 (by omega : (0:Int) ≤ 22)
      exact ⟨Int.mul_nonneg hm0 h2, by omega⟩
    · exact ih x hx
theorem payOk_parts {rate kept : Int} {l : List Int} (h : payOk rate kept l = true) : (0 ≤ rate ∧ rate ≤ 1000) ∧ (0 ≤ kept ∧ kept ≤ 143) ∧ l.length ≤ 12 ∧ ∀ n, n ∈ l → 0 ≤ n ∧ n ≤ 3000 := by
  simp only [payOk, Bool.and_eq_true, decide_eq_true_eq, Bool.not_eq_true'] at h
  obtain ⟨⟨⟨q1, q2⟩, q3⟩, q4⟩ := h
  refine ⟨inB_iff.1 q1, inB_iff.1 q2, q3, fun n hn => ?_⟩
  simp only [List.any_eq_false] at q4
  have := q4 n hn
  simpa [inB] using this
theorem payOk_mk {rate kept : Int} {l : List Int} (h1 : 0 ≤ rate ∧ rate ≤ 1000) (h2 : 0 ≤ kept ∧ kept ≤ 143) (h3 : l.length ≤ 12) (h4 : ∀ n, n ∈ l → 0 ≤ n ∧ n ≤ 3000) : payOk rate kept l = true := by
  simp only [payOk, Bool.and_eq_true, decide_eq_true_eq, Bool.not_eq_true']
  refine ⟨⟨⟨inB_iff.2 h1, inB_iff.2 h2⟩, h3⟩, ?_⟩
  simp only [List.any_eq_false]
  intro n hn
  have := h4 n hn
  simp [inB]; omega
theorem sum_reverse (l : List Int) : l.reverse.sum = l.sum := by
  induction l with
  | nil => rfl
  | cons x l ih => rw [List.reverse_cons, List.sum_append, ih]; simp [Int.add_comm]
def twoL (l : List Int) (k : Nat) (part : Int) : List Int := (l.take k ++ [part, l.getD k 0 - part]) ++ l.drop (k + 1)
theorem twoL_sum {l : List Int} {k : Nat} (part : Int) (h : k < l.length) : (twoL l k part).sum = l.sum := by
  have e : l.sum = (l.take k).sum + (l.getD k 0 + (l.drop (k + 1)).sum) := by
    conv => lhs; rw [← List.take_append_drop k l, List.drop_eq_getElem_cons h]
    rw [List.sum_append, List.sum_cons]
    simp [List.getD, h]
  unfold twoL
  rw [List.sum_append, List.sum_append, e]
  simp
  omega
theorem twoL_len {l : List Int} {k : Nat} (part : Int) (h : k < l.length) : (twoL l k part).length = l.length + 1 := by
  unfold twoL; simp; omega
theorem twoL_mem {l : List Int} {k : Nat} {part : Int} (h : k < l.length) (h0 : 0 ≤ part) (h1 : part ≤ l.getD k 0) (hb : ∀ n, n ∈ l → 0 ≤ n ∧ n ≤ 3000) : ∀ n, n ∈ twoL l k part → 0 ≤ n ∧ n ≤ 3000 := by
  have hx := hb (l.getD k 0) (by simp [List.getD, h])
  intro n hn
  unfold twoL at hn
  rcases List.mem_append.1 hn with hn | hn
  · rcases List.mem_append.1 hn with hn | hn
    · exact hb n (List.mem_of_mem_take hn)
    · simp only [List.mem_cons, List.not_mem_nil, or_false] at hn
      rcases hn with rfl | rfl
      · omega
      · omega
  · exact hb n (List.mem_of_mem_drop hn)

/-! ### The law's paid -/
set_option maxRecDepth 100000 in
set_option maxHeartbeats 2000000 in
theorem paid_any (rate kept : Int) (v : Value) (l : List Int) (w : World) (hv : IntsAt w v l) (hok : payOk rate kept l = true) :
    Calls Tryz.prog 45 #[.int .i64 rate, .int .i64 kept, v] w fun e w' => e = .returned (.tuple #[.int .i64 ((kept + l.sum) / 144 * rate), .int .i64 ((kept + l.sum) % 144)]) ∧ Ext w w' := by
  obtain ⟨⟨q5, q6⟩, ⟨q7, q8⟩, q3, q4⟩ := payOk_parts hok
  obtain ⟨e1, e2⟩ := payGo_sum rate kept l q7 q8 q4
  have hlen := payGo_length rate kept l
  have hmem := payGo_mem rate q5 q6 kept l q7 q8 q4
  have hkp := payGo_kept rate kept l q7 q8
  have HPY := Lib.hid (pay_yes hv hok)
  obtain ⟨a, c, rfl, h1, h2, _⟩ := hv.open
  clear hv hok q4
  rw [← e1, ← e2]
  clear e1 e2
  generalize hL : (payGo rate kept l).1 = L at *
  generalize hKP : (payGo rate kept l).2 = K at *
  have HM := Lib.hid hmem
  have HSB := Lib.hid (sum_take_bd (l := L) (fun x hx => by have := hmem x hx; omega))
  have HK := Lib.hid (fun w1 => (inB_iff.2 hkp) ▸ rkept_any K w1)
  have HLN := Lib.hid hlen
  obtain ⟨hk1, hk2⟩ := hkp
  clear hmem hL hKP hlen
  go_enter Tryz.func45, Tryz.ntmps45
  go_wp2_with (first
    | (go_at_call 41; refine HPY.out.mono ?_; rintro e w1 ⟨a1, n1, c1, rfl, hn1, hnc1, hc1, hi1, hx1⟩; subst hn1; have HI1 := Lib.hid hi1; clear hi1)
    | (go_at_call 42; refine (HK.out _).mono ?_; rintro e w' ⟨rfl, rfl⟩))
  go_loopw [11, 12] (fun s i wr => ∃ k : Nat, k ≤ l.length ∧ i = .int .i64 k ∧ s = .int .i64 (L.take k).sum ∧ w1 = wr) (fun _ i _ => l.length - (intOf i).toNat)
  case atStart => exact ⟨0, Nat.zero_le _, rfl, by simp, rfl⟩
  case round =>
    obtain ⟨k, hk, rfl, rfl, rfl⟩ := hrel
    have hs := HSB.out k
    by_cases hlt : k < l.length
    · obtain ⟨_, _, he, _, _, h3⟩ := HI1.out.open
      have hLl : k < L.length := by rw [HLN.out]; exact hlt
      obtain ⟨b, o, n, hb, hxk, hc⟩ := h3 k hLl
      injection he with he1 _ _
      subst he1
      subst hb
      have x2 : decide ((k : Int) < (l.length : Int)) = true := by simpa using hlt
      have hn := HM.out n (List.mem_of_getElem? hxk.out)
      have HS := Lib.hid (sum_take_succ hxk.out)
      generalize (L.take k).sum = s at *
      obtain ⟨hs1, hs2⟩ := hs
      obtain ⟨hn1, hn2⟩ := hn
      have x3 : decide (n < 0) = false := by simp; omega
      have x4 : decide (3144000 < n) = false := by simp; omega
      clear h3
      go_wp2
      go_roundw
      case rel => exact ⟨k + 1, by omega, by go_num, by rw [HS.out], by trivial⟩
      case measure => simp [intOf]; omega
    · have hke : k = l.length := by omega
      have x2 : decide ((k : Int) < (l.length : Int)) = false := by simp; omega
      have HE : Hid ((L.take k).sum = L.sum) := by unfold Hid; rw [List.take_of_length_le (by rw [HLN.out]; omega)]
      clear hke
      go_wp2
      go_ret2
      exact ⟨by rw [HE.out] <;> rfl, hx1⟩
/-! ### The walk -/
theorem ints_prefix {w : World} {a : Option Addr} {c j : Nat} {l : List Int} (h : IntsAt w (.slice a l.length c) l) (hj : j ≤ l.length) : IntsAt w (.slice a j c) (l.take j) := by
  obtain ⟨a', c', he, h1, h2, h0, h3⟩ := h
  cases he
  have hlen : (l.take j).length = j := by simp [hj]
  refine ⟨a, c, by rw [hlen], by rw [hlen]; omega, h2, h0, fun i u hu => h3 i u ?_⟩
  rw [List.getElem?_map] at hu ⊢
  rw [List.getElem?_take] at hu
  split at hu
  · exact hu
  · cases hu
theorem ints_suffix {w : World} {b o c j : Nat} {l : List Int} (h : IntsAt w (.slice (some ⟨b, o, none⟩) l.length c) l) (hj : j ≤ l.length) : IntsAt w (.slice (some ⟨b, o + j, none⟩) (l.length - j) (c - j)) (l.drop j) := by
  obtain ⟨a', c', he, h1, h2, h0, h3⟩ := h
  cases he
  have hlen : (l.drop j).length = l.length - j := by simp
  refine ⟨_, _, by rw [hlen], by rw [hlen]; omega, by omega, (fun h => by cases h), fun i u hu => ?_⟩
  rw [List.getElem?_map, List.getElem?_drop, ← List.getElem?_map] at hu
  obtain ⟨b', o', e, hc⟩ := h3 (j + i) u hu
  cases e
  exact ⟨b, o + j, rfl, by rw [Nat.add_assoc]; exact hc⟩
theorem suffix_row {W : World} {b o c j : Nat} {l : List Int} (A : Option Addr) (hA : A = if c = j + 1 then some ⟨b, o, none⟩ else some ⟨b, o + (j + 1), none⟩) (h : IntsAt W (.slice (some ⟨b, o, none⟩) l.length c) l) (hj : j + 1 ≤ l.length) :
    RowAt W (.slice A (l.length - (j + 1)) (c - (j + 1))) (l.length - (j + 1)) ((l.drop (j + 1)).map (.int .i64)) := by
  by_cases hc : c = j + 1
  · rw [if_pos hc] at hA
    subst hA
    obtain ⟨a', c', he, h1, h2, _, _⟩ := h
    cases he
    have hd : l.drop (j + 1) = [] := List.drop_eq_nil_of_le (by omega)
    exact ⟨_, _, rfl, by omega, by omega, (fun h => by cases h), fun i u hu => by rw [hd] at hu; simp at hu⟩
  · rw [if_neg hc] at hA
    subst hA
    have h2 := ints_suffix h hj
    unfold IntsAt at h2
    rw [List.length_drop] at h2
    exact h2
theorem two_row {W : World} {base : Nat} {v : Value} {l : List Int} {j : Nat} {part x : Int} (hx : l.getD j 0 = x) (hj : j + 1 ≤ l.length) (h : W.ownsRow base 3 1 v ((l.take j).length + 2 + (l.length - (j + 1))) (((l.take j).map (.int .i64) ++ [.int .i64 part, .int .i64 (x - part)]) ++ (l.drop (j + 1)).map (.int .i64))) : IntsAt W v (twoL l j part) := by
  have h1 := RowAt.of_owns h
  unfold IntsAt
  rw [twoL_len part (by omega)]
  have e : (l.take j).length + 2 + (l.length - (j + 1)) = l.length + 1 := by simp; omega
  rw [e] at h1
  unfold twoL
  rw [hx]
  simpa using h1
theorem rev_at {l : List Int} {k : Nat} (h : k < l.length) : l.reverse[k]? = l[l.length - 1 - k]? := by
  rw [List.getElem?_reverse h]
theorem rev_ok {rate kept : Int} {l : List Int} (h : payOk rate kept l = true) : payOk rate kept l.reverse = true := by
  obtain ⟨h1, h2, h3, h4⟩ := payOk_parts h
  exact payOk_mk h1 h2 (by simpa using h3) (fun n hn => h4 n (by simpa using hn))
set_option maxRecDepth 100000 in
set_option maxHeartbeats 8000000 in
theorem cardPaid_any (rate kept : Int) (v : Value) (l : List Int) (at_ part : Int) (w : World) (hv : IntsAt w v l) (ht : TabOk w) :
    Calls Tryz.prog 7 #[.int .i64 rate, .int .i64 kept, v, .int .i64 at_, .int .i64 part] w (TrueP w) := by
  have HL := Lib.hid (fun w1 (hx : Ext w w1) => lknown_any w1 (ht.ext hx))
  have HBR := Lib.hid (fun w1 (hx : Ext w w1) => rbring_any v l w1 (hv.ext hx))
  have HV := Lib.hid hv
  obtain ⟨a, c, rfl, h1, h2, h3⟩ := hv.open
  have H3 := Lib.hid h3
  clear hv ht h3
  by_cases hl : 14 < l.length
  · have t0 : decide ((14 : Int) < (l.length : Int)) = true := by simp; omega
    go_enter Tryz.func7, Tryz.ntmps7
    go_wp2_with (go_at_call 25; refine (HL.out _ (Ext.refl _)).mono ?_; rintro e w1 ⟨rfl, hx1⟩)
    go_ret
    exact ⟨rfl, hx1⟩
  · have t0 : decide ((14 : Int) < (l.length : Int)) = false := by simp; omega
    cases hok : payOk rate kept l with
    | false =>
      have hno := hok
      rw [payOk_eq] at hno
      clear hok
      cases hr : inB rate 0 1000 with
      | false =>
        have HR := Lib.hid (fun w1 => hr ▸ rrate_any rate w1)
        clear hr hno
        go_enter Tryz.func7, Tryz.ntmps7
        go_wp2_with (first
          | (go_at_call 38; refine (HR.out _).mono ?_; rintro e w' ⟨rfl, rfl⟩)
          | (go_at_call 25; refine (HL.out _ (Ext.refl _)).mono ?_; rintro e w2 ⟨rfl, hx2⟩))
        go_ret
        exact ⟨rfl, hx2⟩
      | true =>
        have HR := Lib.hid (fun w1 => hr ▸ rrate_any rate w1)
        rw [hr] at hno
        clear hr
        cases hk : inB kept 0 143 with
        | false =>
          have HK := Lib.hid (fun w1 => hk ▸ rkept_any kept w1)
          clear hk hno
          go_enter Tryz.func7, Tryz.ntmps7
          go_wp2_with (first
            | (go_at_call 38; refine (HR.out _).mono ?_; rintro e w' ⟨rfl, rfl⟩)
            | (go_at_call 42; refine (HK.out _).mono ?_; rintro e w' ⟨rfl, rfl⟩)
            | (go_at_call 25; refine (HL.out _ (Ext.refl _)).mono ?_; rintro e w2 ⟨rfl, hx2⟩))
          go_ret
          exact ⟨rfl, hx2⟩
        | true =>
          have HK := Lib.hid (fun w1 => hk ▸ rkept_any kept w1)
          rw [hk] at hno
          have HN := Lib.hid (show bringB l = false by simpa using hno)
          clear hk hno
          go_enter Tryz.func7, Tryz.ntmps7
          go_wp2_with (first
            | (go_at_call 38; refine (HR.out _).mono ?_; rintro e w' ⟨rfl, rfl⟩)
            | (go_at_call 42; refine (HK.out _).mono ?_; rintro e w' ⟨rfl, rfl⟩)
            | (go_at_call 43; refine (HBR.out _ (Ext.refl _)).mono ?_; rw [HN.out]; rintro e w' ⟨rfl, rfl⟩)
            | (go_at_call 25; refine (HL.out _ (Ext.refl _)).mono ?_; rintro e w2 ⟨rfl, hx2⟩))
          go_ret
          exact ⟨rfl, hx2⟩
    | true =>
      have HOK := Lib.hid hok
      have hyes := hok
      rw [payOk_eq] at hyes
      simp only [Bool.and_eq_true] at hyes
      obtain ⟨⟨hr, hk⟩, hb⟩ := hyes
      have HR := Lib.hid (fun w1 => hr ▸ rrate_any rate w1)
      have HK := Lib.hid (fun w1 => hk ▸ rkept_any kept w1)
      have HN := Lib.hid hb
      obtain ⟨⟨q5, q6⟩, ⟨q7, q8⟩, q3, q4⟩ := payOk_parts hok
      have HM := Lib.hid q4
      have HSB := Lib.hid (sum_take_bd (l := l) (fun x hx => by have := q4 x hx; omega))
      have hS36 : 0 ≤ l.sum ∧ l.sum ≤ 36000 := by
        have key : ∀ m : List Int, (∀ n, n ∈ m → 0 ≤ n ∧ n ≤ 3000) → 0 ≤ m.sum ∧ m.sum ≤ 3000 * m.length := by
          intro m
          induction m with
          | nil => intro _; simp
          | cons x m ih =>
            intro h
            have h1 := h x (List.mem_cons_self ..)
            have h2 := ih (fun n hn => h n (List.mem_cons_of_mem _ hn))
            simp only [List.sum_cons, List.length_cons]
            omega
        have := key l q4
        omega
      have HS := Lib.hid hS36
      clear hr hk hb hok q4 hS36
      go_enter Tryz.func7, Tryz.ntmps7
      go_wp2_with (first
        | (go_at_call 38; refine (HR.out _).mono ?_; rintro e w' ⟨rfl, rfl⟩)
        | (go_at_call 42; refine (HK.out _).mono ?_; rintro e w' ⟨rfl, rfl⟩)
        | (go_at_call 43; refine (HBR.out _ (Ext.refl _)).mono ?_; rw [HN.out]; rintro e w' ⟨rfl, rfl⟩))
      go_loopw [11, 12, 13] (fun s out i wr => ∃ k : Nat, k ≤ l.length ∧ i = .int .i64 k ∧ s = .int .i64 (kept + (l.take k).sum) ∧ wr.ownsRow w.heap.size 3 1 out k ((l.reverse.take k).map (.int .i64)) ∧ Ext w wr) (fun _ _ i _ => l.length - (intOf i).toNat)
      case atStart => exact ⟨0, Nat.zero_le _, rfl, by simp, World.ownsRow_nil _ _ _ _, Ext.refl _⟩
      case round =>
        obtain ⟨k, hk, rfl, rfl, hown, hx⟩ := hrel
        have hs := HSB.out k
        by_cases hlt : k < l.length
        · obtain ⟨b, o, n, rfl, hxk, hc⟩ := H3.out k hlt
          obtain ⟨b', o', n', e', hxk', hc'⟩ := H3.out (l.length - 1 - k) (by omega)
          cases e'
          have x2 : decide ((k : Int) < (l.length : Int)) = true := by simpa using hlt
          have hn := HM.out n (List.mem_of_getElem? hxk.out)
          have HSU := Lib.hid (sum_take_succ hxk.out)
          have HRV : Hid (l.reverse.take (k + 1) = l.reverse.take k ++ [n']) := by
            unfold Hid; rw [List.take_add_one, rev_at hlt, hxk'.out]; rfl
          obtain ⟨m, hm⟩ : ∃ m, l.length - 1 - k = m := ⟨_, rfl⟩
          rw [hm] at hc'
          have x3 : (l.length : Int) - 1 - (k : Int) = (m : Int) := by omega
          have x4 : m < l.length := by omega
          have d0 := hx.cell hc
          have d1 := hx.cell hc'
          generalize (l.take k).sum = s at *
          obtain ⟨hs1, hs2⟩ := hs
          obtain ⟨hn1, hn2⟩ := hn
          have hsz : k + 1 ≤ maxLen ∧ (k + 1) * 8 ≤ 140737488355328 := by unfold maxLen; omega
          have HSZ := Lib.hid hsz
          have hbz := hx.size
          clear hc hc' hsz hm
          go_wp2_with (at_builtin; refine wpList_push E_ints rfl _ _ rfl w.heap.size rfl hown rfl rfl (by simp [Value.oneCell']) ?_ HSZ.out.1 HSZ.out.2 hbz; intro g cap w2 hown' hext _)
          go_roundw
          case rel => exact ⟨k + 1, by omega, by go_num, by rw [HSU.out, Int.add_assoc], by rw [HRV.out, List.map_append]; exact hown', hext _ hx (Nat.le_refl _)⟩
          case measure => simp [intOf]; omega
        · have hke : k = l.length := by omega
          subst hke
          have x2 : decide ((l.length : Int) < (l.length : Int)) = false := by simp
          have hsum : (l.take l.length).sum = l.sum := by rw [List.take_of_length_le (Nat.le_refl _)]
          rw [hsum]
          have hback : IntsAt wr u12 l.reverse := by
            have h := hown
            rw [List.take_of_length_le (by simp)] at h
            have h' := RowAt.of_owns h
            unfold IntsAt; rw [List.length_reverse]; exact h'
          have HP1 := Lib.hid (fun w1 (hx1 : Ext wr w1) => paid_any rate kept _ l w1 ((HV.out.ext hx).ext hx1) HOK.out)
          have HP2 := Lib.hid (fun w1 (hx1 : Ext wr w1) => sum_reverse l ▸ paid_any rate kept _ l.reverse w1 (hback.ext hx1) (rev_ok HOK.out))
          obtain ⟨ba, bc, rfl, _⟩ := hback.open
          rw [List.length_reverse] at HP2
          have hA := HS.out
          generalize hAe : kept + l.sum = A at *
          have hA0 : 0 ≤ A := by omega
          have hA1 : A ≤ 36143 := by omega
          have hm : A / 144 ≤ 251 := by omega
          have hm0 : 0 ≤ A / 144 := by omega
          have hr1 : 0 ≤ A / 144 * rate := Int.mul_nonneg hm0 q5
          have hr2 : A / 144 * rate ≤ 251000 := by
            have := Int.mul_le_mul hm q6 q5 (by omega : (0:Int) ≤ 251)
            omega
          clear hown hs hsum hback hA
          have tok1 : True := trivial
          go_upto_region 14 with (first
            | (go_at_call 45; have _t := tok1; refine (HP1.out _ (Ext.refl _)).mono ?_; rintro e w1 ⟨rfl, hx1⟩; clear tok1 _t)
            | (go_at_call 45; refine (HP2.out _ hx1).mono ?_; rintro e w2 ⟨rfl, hx2⟩; have hxw := (hx.trans hx1).trans hx2))
          have HKN := Lib.hid (HL.out w2 hxw)
          clear HP1 HP2 hx hx1 hx2
          by_cases k1 : at_ < 0
          · have y1 : decide (at_ < 0) = true := by simpa using k1
            go_wp2_with (go_at_call 25; refine HKN.out.mono ?_; rintro e w3 ⟨rfl, hx3⟩)
            go_ret
            exact ⟨rfl, hxw.trans hx3⟩
          · have y1 : decide (at_ < 0) = false := by simpa using k1
            obtain ⟨j, rfl⟩ := Int.eq_ofNat_of_zero_le (show 0 ≤ at_ by omega)
            clear k1 y1
            by_cases k2 : j < l.length
            · have y2 : decide ((l.length : Int) ≤ (j : Int)) = false := by simp; omega
              obtain ⟨b, o, x, rfl, hxk, hc⟩ := H3.out j k2
              have d0 := hxw.cell hc
              by_cases k3 : part < 0
              · have y3 : decide (part < 0) = true := by simpa using k3
                go_wp2_with (go_at_call 25; refine HKN.out.mono ?_; rintro e w3 ⟨rfl, hx3⟩)
                go_ret
                exact ⟨rfl, hxw.trans hx3⟩
              · have y3 : decide (part < 0) = false := by simpa using k3
                by_cases k4 : x < part
                · have y4 : decide (x < part) = true := by simpa using k4
                  go_wp2_with (go_at_call 25; refine HKN.out.mono ?_; rintro e w3 ⟨rfl, hx3⟩)
                  go_ret
                  exact ⟨rfl, hxw.trans hx3⟩
                · have y4 : decide (x < part) = false := by simpa using k4
                  by_cases k5 : 12 ≤ l.length
                  · have y5 : decide ((12 : Int) ≤ (l.length : Int)) = true := by simp; omega
                    go_wp2_with (go_at_call 25; refine HKN.out.mono ?_; rintro e w3 ⟨rfl, hx3⟩)
                    go_ret
                    exact ⟨rfl, hxw.trans hx3⟩
                  · have y5 : decide ((12 : Int) ≤ (l.length : Int)) = false := by simp; omega
                    have hxb := HM.out x (List.mem_of_getElem? hxk.out)
                    have hget : l.getD j 0 = x := by simp [List.getD, hxk.out]
                    have HGET := Lib.hid hget
                    have HIW := Lib.hid (HV.out.ext hxw)
                    have HPRE := Lib.hid (fun W (h : Ext w2 W) => ints_prefix (HIW.out.ext h) (Nat.le_of_lt k2))
                    have E1 : IntKind.i64.wrap (x - part) = x - part := wrap_id (by omega) (by omega)
                    have hs1 : 0 + (l.take j).length ≤ maxLen ∧ (0 + (l.take j).length) * 8 ≤ 140737488355328 := by simp; unfold maxLen; omega
                    have HS1 := Lib.hid hs1
                    have hs2 : (l.take j).length + 2 ≤ maxLen ∧ ((l.take j).length + 2) * 8 ≤ 140737488355328 := by simp; unfold maxLen; omega
                    have HS2 := Lib.hid hs2
                    have hmix : Tryz.prog.follows .mixedOrders = true := by kernel_rfl
                    have b1 : (j : Int) < (l.length : Int) := by omega
                    have b2 : (j : Int) ≤ (c : Int) := by omega
                    have b3 : (0 : Int) ≤ (j : Int) := by omega
                    clear hs1 hs2 hget hc
                    go_upto_region 16 with fail
                    go_region_held3 (fun w' => w'.cell? ⟨b, o + j, none⟩ = some (.int .i64 x)) (first | go_keep)
                      (first
                        | (refine step_append_row E_ints (by rfl) _ _ (by rfl) w2.heap.size (by rfl) (World.ownsRow_nil _ _ _ _) (by rfl) (HPRE.out _ (by first | exact (Ext.refl w2).drew | exact ((Ext.refl w2).drew).alloc _)) (by simp) (ints_one _) HS1.out.1 HS1.out.2 (by first | exact (Ext.refl w2).drew.size | exact (((Ext.refl w2).drew).alloc _).size) ?_; intro v1 w3 hown1 hgr1 _
                           have hx31 := (Ext.refl _).grown hgr1 (fun g hg => by cases hg)
                           have hxa : Ext w2 w3 := Ext.trans (by first | exact (Ext.refl w2).drew | exact ((Ext.refl w2).drew).alloc _) hx31
                           have z0 := hxa.cell d0
                           simp only [Nat.zero_add, List.nil_append] at hown1
                           have HOWN1 := Lib.hid hown1
                           clear hown1 hgr1)
                        | (refine step_append_row E_ints (by rfl) _ _ (by rfl) _ (by rfl) (HOWN1.out.alloc (Obj.cells #[.int .i64 part, .int .i64 (x - part)] 3)) (by rfl) (RowAt.new w3 #[.int .i64 part, .int .i64 (x - part)] 3 2 2 (Nat.le_refl _) two_le) (by rfl) (by simp [Value.oneCell']) HS2.out.1 HS2.out.2 (Nat.le_trans hxa.size ((Ext.refl w3).alloc _).size) ?_; intro v2 w4 hown2 hgrow _
                           have hx4 : Ext w2 w4 := (hxa.alloc _).grown hgrow (fun g hg => owns_block HOWN1.out g hg)
                           have y0 := hx4.cell d0
                           have HOWN2 := Lib.hid hown2
                           clear hown2 hgrow)
                        | (refine step_append_row E_ints (by rfl) _ _ (by rfl) _ (by rfl) HOWN1.out (by rfl) ((RowAt.new w2.drew #[.int .i64 part, .int .i64 (x - part)] 3 2 2 (Nat.le_refl _) two_le).ext hx31) (by rfl) (by simp [Value.oneCell']) HS2.out.1 HS2.out.2 hxa.size ?_; intro v2 w4 hown2 hgrow _
                           have hx4 : Ext w2 w4 := hxa.grown hgrow (fun g hg => owns_block HOWN1.out g hg)
                           have y0 := hx4.cell d0
                           have HOWN2 := Lib.hid hown2
                           clear hown2 hgrow))
                    all_goals (
                      clear E1
                      have b4 : (j : Int) + 1 ≤ (l.length : Int) := by omega
                      have b5 : j + 1 ≤ l.length := by omega
                      have hs3 : (l.take j).length + 2 + (l.length - (j + 1)) ≤ maxLen ∧ ((l.take j).length + 2 + (l.length - (j + 1))) * 8 ≤ 140737488355328 := by simp; unfold maxLen; omega
                      have HS3 := Lib.hid hs3
                      have hz4 := hx4.size
                      have HPT := Lib.hid (fun (W : World) (u : Value) (hW : Ext w2 W) (hu : IntsAt W u (twoL l j part)) => twoL_sum part k2 ▸ paid_any rate kept u (twoL l j part) W hu (payOk_mk ⟨q5, q6⟩ ⟨q7, q8⟩ (by rw [twoL_len part k2]; omega) (twoL_mem k2 (by omega) (by rw [HGET.out]; omega) HM.out)))
                      rw [hAe] at HPT
                      clear hs3
                      by_cases hcj : c = j + 1
                      · have hsf := suffix_row (some ⟨b, o, none⟩) (by rw [if_pos hcj]) (HIW.out.ext hx4) b5
                        rw [show c - (j + 1) = 0 by omega] at hsf
                        have HSUF := Lib.hid hsf
                        clear hsf
                        go_wp2_with (first
                          | (at_builtin; refine wpList_append_row E_ints rfl _ _ rfl w2.heap.size rfl HOWN2.out rfl HSUF.out (by simp) (ints_one _) ?_ HS3.out.1 HS3.out.2 hz4; intro v5 w5 hown5 hgr5 _; have hx5 : Ext w2 w5 := hx4.grown hgr5 (fun g hg => owns_block HOWN2.out g hg); have HI5 := Lib.hid (two_row HGET.out b5 hown5); clear hown5 hgr5)
                          | (go_at_call 45; refine (HPT.out _ _ hx5 HI5.out).mono ?_; rintro e w6 ⟨rfl, hx6⟩; have hx26 := hx5.trans hx6)
                          | (go_at_call 25; refine (HL.out _ (hxw.trans hx26)).mono ?_; rintro e w7 ⟨rfl, hx7⟩))
                        go_ret
                        exact ⟨rfl, (hxw.trans hx26).trans hx7⟩
                      · have HSA := Lib.hid (suffix_row (some ((⟨b, o, none⟩ : Addr).add (j + 1))) (by rw [if_neg hcj]; simp [Addr.add]) (HIW.out.ext hx4) b5)
                        have HSB := Lib.hid (suffix_row (some ((⟨b, o, none⟩ : Addr).add ((j + 1) * 1))) (by rw [if_neg hcj]; simp [Addr.add]) (HIW.out.ext hx4) b5)
                        have HSC := Lib.hid (suffix_row (some ⟨b, o + (j + 1), none⟩) (by rw [if_neg hcj]) (HIW.out.ext hx4) b5)
                        go_wp2_with (first
                          | (at_builtin; refine wpList_append_row E_ints rfl _ _ rfl w2.heap.size rfl HOWN2.out rfl HSA.out (by simp) (ints_one _) ?_ HS3.out.1 HS3.out.2 hz4; intro v5 w5 hown5 hgr5 _; have hx5 : Ext w2 w5 := hx4.grown hgr5 (fun g hg => owns_block HOWN2.out g hg); have HI5 := Lib.hid (two_row HGET.out b5 hown5); clear hown5 hgr5)
                          | (at_builtin; refine wpList_append_row E_ints rfl _ _ rfl w2.heap.size rfl HOWN2.out rfl HSB.out (by simp) (ints_one _) ?_ HS3.out.1 HS3.out.2 hz4; intro v5 w5 hown5 hgr5 _; have hx5 : Ext w2 w5 := hx4.grown hgr5 (fun g hg => owns_block HOWN2.out g hg); have HI5 := Lib.hid (two_row HGET.out b5 hown5); clear hown5 hgr5)
                          | (at_builtin; refine wpList_append_row E_ints rfl _ _ rfl w2.heap.size rfl HOWN2.out rfl HSC.out (by simp) (ints_one _) ?_ HS3.out.1 HS3.out.2 hz4; intro v5 w5 hown5 hgr5 _; have hx5 : Ext w2 w5 := hx4.grown hgr5 (fun g hg => owns_block HOWN2.out g hg); have HI5 := Lib.hid (two_row HGET.out b5 hown5); clear hown5 hgr5)
                          | (go_at_call 45; refine (HPT.out _ _ hx5 HI5.out).mono ?_; rintro e w6 ⟨rfl, hx6⟩; have hx26 := hx5.trans hx6)
                          | (go_at_call 25; refine (HL.out _ (hxw.trans hx26)).mono ?_; rintro e w7 ⟨rfl, hx7⟩))
                        go_ret
                        exact ⟨rfl, (hxw.trans hx26).trans hx7⟩)
            · have y2 : decide ((l.length : Int) ≤ (j : Int)) = true := by simp; omega
              go_wp2_with (go_at_call 25; refine HKN.out.mono ?_; rintro e w3 ⟨rfl, hx3⟩)
              go_ret
              exact ⟨rfl, hxw.trans hx3⟩
end Go.Proofs.YtjbeiclfggjbmaaGreatDoor
