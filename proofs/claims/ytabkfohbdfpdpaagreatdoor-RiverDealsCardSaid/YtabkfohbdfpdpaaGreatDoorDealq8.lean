/- The reference's check of lists and its search of deals, in plain Lean. -/
import Derived.Test.YtabkfohbdfpdpaaGreatDoorDealp8
namespace Go.Proofs.YtabkfohbdfpdpaaGreatDoor

def restOf : List Take → List Int → Int
  | t :: ts, n :: ns => (if n < 0 then t.many else 0) + restOf ts ns
  | _, _ => 0
def sumI : List Take → List Int → Int → Int
  | t :: ts, n :: ns, i => (if n = i then t.many else 0) + sumI ts ns i
  | _, _, _ => 0
def goodI (b : Book) (x : Licence) : List Take → List Int → Int → Bool
  | t :: ts, n :: ns, i => (decide (n ≠ i) || goodB b x t) && goodI b x ts ns i
  | _, _, _ => true
def rdealsB (b : Book) (l : List Licence) (ts : List Take) (d : List Int) : Bool := (List.range l.length).all fun i => goodI b (licAt l i) ts d (i : Int) && decide (sumI ts d (i : Int) ≤ (licAt l i).quota)
theorem sumI_nn : ∀ (ts : List Take) (ns : List Int) (i : Int), (∀ t, t ∈ ts → 0 ≤ t.many) → 0 ≤ sumI ts ns i
  | [], ns, i, _ => by unfold sumI; omega
  | _ :: _, [], i, _ => by unfold sumI; omega
  | t :: ts, n :: ns, i, h => by
    have ih := sumI_nn ts ns i (fun x hx => h x (List.mem_cons_of_mem _ hx))
    have ht := h t (List.mem_cons_self ..)
    unfold sumI
    split <;> omega
theorem go_iff (b : Book) (l : List Licence) : ∀ (ts : List Take) (ns used : List Int) (rest : Int), (∀ t, t ∈ ts → 0 ≤ t.many) → dealOkB l ns = true → used.length = l.length → (∀ i, i < l.length → used.getD i 0 ≤ (licAt l i).quota) →
    ((dealsGo b l ts ns used rest).1 = true ↔ ∀ i, i < l.length → goodI b (licAt l i) ts ns (i : Int) = true ∧ used.getD i 0 + sumI ts ns (i : Int) ≤ (licAt l i).quota)
  | [], ns, used, rest, _, _, _, hu => by
    have h : (dealsGo b l [] ns used rest).1 = true := by cases ns <;> rfl
    exact ⟨fun _ i hi => ⟨by cases ns <;> rfl, by have := hu i hi; have h0 : sumI [] ns (i : Int) = 0 := by cases ns <;> rfl
                                                  rw [h0]; omega⟩, fun _ => h⟩
  | t :: ts, [], used, rest, _, _, _, hu => ⟨fun _ i hi => ⟨rfl, by have := hu i hi; have h0 : sumI (t :: ts) [] (i : Int) = 0 := rfl; rw [h0]; omega⟩, fun _ => rfl⟩
  | t :: ts, n :: ns, used, rest, hm, hok, hl, hu => by
    rw [dealOkB_cons, Bool.and_eq_true, inB_iff] at hok
    obtain ⟨⟨h5, h6⟩, hok⟩ := hok
    have hm' := fun x hx => hm x (List.mem_cons_of_mem t hx)
    have ht := hm t (List.mem_cons_self ..)
    unfold dealsGo
    by_cases hn : n = -1
    · subst hn
      rw [if_pos rfl, go_iff b l ts ns used _ hm' hok hl hu]
      have e1 : ∀ i : Nat, goodI b (licAt l i) (t :: ts) (-1 :: ns) (i : Int) = goodI b (licAt l i) ts ns (i : Int) := fun i => by
        show ((decide ((-1 : Int) ≠ i) || _) && _) = _
        rw [decide_eq_true (by omega), Bool.true_or, Bool.true_and]
      have e2 : ∀ i : Nat, sumI (t :: ts) (-1 :: ns) (i : Int) = sumI ts ns (i : Int) := fun i => by
        show (if (-1 : Int) = i then _ else _) + _ = _
        rw [if_neg (by omega), Int.zero_add]
      simp only [e1, e2]
    · rw [if_neg hn]
      obtain ⟨m, rfl⟩ : ∃ m : Nat, n = m := ⟨n.toNat, by omega⟩
      rw [Int.toNat_natCast]
      have hml : m < l.length := by omega
      by_cases hc : goodB b (licAt l m) t = false ∨ (licAt l m).quota < used.getD m 0 + t.many
      · rw [if_pos hc]
        constructor
        · intro h; cases h
        · intro h
          obtain ⟨h7, h8⟩ := h m hml
          have e1 : goodI b (licAt l m) (t :: ts) ((m : Int) :: ns) (m : Int) = (goodB b (licAt l m) t && goodI b (licAt l m) ts ns (m : Int)) := by
            show ((decide ((m : Int) ≠ m) || _) && _) = _
            rw [decide_eq_false (by simp), Bool.false_or]
          have e2 : sumI (t :: ts) ((m : Int) :: ns) (m : Int) = t.many + sumI ts ns (m : Int) := by
            show (if (m : Int) = m then _ else _) + _ = _
            rw [if_pos rfl]
          rw [e1, Bool.and_eq_true] at h7
          rw [e2] at h8
          have := sumI_nn ts ns (m : Int) hm'
          rcases hc with hc | hc
          · rw [h7.1] at hc; cases hc
          · omega
      · rw [if_neg hc]
        have hg : goodB b (licAt l m) t = true := by cases hg : goodB b (licAt l m) t with | true => rfl | false => exact absurd (.inl hg) hc
        have hq : used.getD m 0 + t.many ≤ (licAt l m).quota := by apply Decidable.byContradiction; intro h; exact hc (.inr (by omega))
        have hset : ∀ i, i < l.length → (used.set m (used.getD m 0 + t.many)).getD i 0 = used.getD i 0 + (if (m : Int) = (i : Int) then t.many else 0) := fun i hi => by
          rw [List.getD_eq_getElem?_getD, List.getElem?_set]
          by_cases he : m = i
          · subst he
            rw [if_pos rfl, if_pos (by omega), if_pos rfl]; rfl
          · rw [if_neg he, if_neg (by omega), List.getD_eq_getElem?_getD]; omega
        rw [go_iff b l ts ns _ _ hm' hok (by rw [List.length_set, hl]) (fun i hi => by
          rw [hset i hi]
          by_cases he : (m : Int) = (i : Int)
          · obtain rfl : m = i := by omega
            rw [if_pos rfl]; exact hq
          · rw [if_neg he]; have := hu i hi; omega)]
        refine forall_congr' fun i => forall_congr' fun hi => ?_
        rw [hset i hi]
        have e1 : goodI b (licAt l i) (t :: ts) ((m : Int) :: ns) (i : Int) = goodI b (licAt l i) ts ns (i : Int) := by
          show ((decide ((m : Int) ≠ i) || _) && _) = _
          by_cases he : (m : Int) = (i : Int)
          · obtain rfl : m = i := by omega
            rw [hg, Bool.or_true, Bool.true_and]
          · rw [decide_eq_true he, Bool.true_or, Bool.true_and]
        have e2 : sumI (t :: ts) ((m : Int) :: ns) (i : Int) = (if (m : Int) = (i : Int) then t.many else 0) + sumI ts ns (i : Int) := rfl
        rw [e1, e2]
        constructor
        · rintro ⟨h1, h2⟩; exact ⟨h1, by omega⟩
        · rintro ⟨h1, h2⟩; exact ⟨h1, by omega⟩
theorem replicate_getD (n i : Nat) : (List.replicate n (0 : Int)).getD i 0 = 0 := by
  rw [List.getD_eq_getElem?_getD, List.getElem?_replicate]; split <;> rfl
/-- The reference's check is the program's. -/
theorem rdeals_eq {b : Book} {l : List Licence} {ts : List Take} {d : List Int} (hm : ∀ t, t ∈ ts → 0 ≤ t.many) (hq : ∀ x, x ∈ l → 0 ≤ x.quota) (hok : dealOkB l d = true) : rdealsB b l ts d = (dealsB b l ts d).1 := by
  have hq' : ∀ i, i < l.length → 0 ≤ (licAt l i).quota := fun i hi => hq _ (by unfold licAt; rw [List.getD_eq_getElem?_getD, List.getElem?_eq_getElem hi]; exact List.getElem_mem hi)
  rw [Bool.eq_iff_iff]
  unfold dealsB rdealsB
  rw [go_iff b l ts d _ _ hm hok (by simp) (fun i hi => by rw [replicate_getD]; exact hq' i hi), List.all_eq_true]
  simp only [List.mem_range, Bool.and_eq_true, decide_eq_true_eq, replicate_getD, Int.zero_add]
/-- What is left in the end. -/
theorem go_rest (b : Book) (l : List Licence) : ∀ (ts : List Take) (ns used : List Int) (rest : Int), (dealsGo b l ts ns used rest).1 = true → dealOkB l ns = true → (dealsGo b l ts ns used rest).2 = rest + restOf ts ns
  | [], ns, used, rest, _, _ => by
    have h1 : (dealsGo b l [] ns used rest).2 = rest := by cases ns <;> rfl
    have h2 : restOf [] ns = 0 := by cases ns <;> rfl
    rw [h1, h2]; omega
  | t :: ts, [], used, rest, _, _ => by
    show rest = rest + (0 : Int); omega
  | t :: ts, n :: ns, used, rest, h, hok => by
    rw [dealOkB_cons, Bool.and_eq_true, inB_iff] at hok
    obtain ⟨⟨h5, h6⟩, hok⟩ := hok
    have e : restOf (t :: ts) (n :: ns) = (if n < 0 then t.many else 0) + restOf ts ns := rfl
    rw [e]
    unfold dealsGo at h ⊢
    by_cases hn : n = -1
    · rw [if_pos hn] at h ⊢
      rw [if_pos (show n < 0 by omega), go_rest b l ts ns used _ h hok]; omega
    · rw [if_neg hn] at h ⊢
      rw [if_neg (show ¬ n < 0 by omega)]
      by_cases hc : goodB b (licAt l n.toNat) t = false ∨ (licAt l n.toNat).quota < used.getD n.toNat 0 + t.many
      · rw [if_pos hc] at h; cases h
      · rw [if_neg hc] at h ⊢
        rw [go_rest b l ts ns _ rest h hok, Int.zero_add]
end Go.Proofs.YtabkfohbdfpdpaaGreatDoor
