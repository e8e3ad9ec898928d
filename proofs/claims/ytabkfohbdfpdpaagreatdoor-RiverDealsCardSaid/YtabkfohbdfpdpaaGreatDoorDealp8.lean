/- The best deal, in plain Lean: it is a deal; none that somebody proposes is better; richer licences. -/
import Derived.Test.YtabkfohbdfpdpaaGreatDoorDealx
namespace Go.Proofs.YtabkfohbdfpdpaaGreatDoor

/-- The order of lists. -/
def befI : List Int → List Int → Bool
  | x :: xs, y :: ys => if x ≠ y then decide (x < y) else befI xs ys
  | [], _ :: _ => true
  | _, [] => false
theorem befI_self : ∀ xs : List Int, befI xs xs = false
  | [] => rfl
  | x :: xs => by unfold befI; rw [if_neg (by simp)]; exact befI_self xs
theorem befI_asym : ∀ xs ys : List Int, befI xs ys = true → befI ys xs = false
  | [], [], h => by cases h
  | [], _ :: _, _ => rfl
  | _ :: _, [], h => by cases h
  | x :: xs, y :: ys, h => by
    unfold befI at *
    by_cases he : x = y
    · rw [if_neg (by simpa using he)] at h
      rw [if_neg (by simpa using Eq.symm he)]
      exact befI_asym xs ys h
    · rw [if_pos he] at h
      rw [if_pos (fun h => he h.symm)]
      rw [decide_eq_true_eq] at h
      rw [decide_eq_false_iff_not]; omega
theorem befI_app (p a b : List Int) : befI (p ++ a) (p ++ b) = befI a b := by
  induction p with
  | nil => rfl
  | cons x p ih => show (if x ≠ x then decide (x < x) else befI (p ++ a) (p ++ b)) = _; rw [if_neg (by simp)]; exact ih
theorem befI_lt {x y : Int} (a b : List Int) (h : x < y) : befI (x :: a) (y :: b) = true := by
  unfold befI; rw [if_pos (by omega)]; exact decide_eq_true h

/-! ### Which lists are found -/
theorem dealOkB_cons (l : List Licence) (n : Int) (ns : List Int) : dealOkB l (n :: ns) = (inB n (-1) (l.length - 1) && dealOkB l ns) := by
  unfold dealOkB; rw [List.any_cons, Bool.not_or, Bool.not_not]
theorem dealOk_of {b : Book} {l : List Licence} {t : Take} {used : List Int} {n : Nat} : dealAt b l t used n = true ↔ ¬ (goodB b (licAt l (n : Int).toNat) t = false ∨ (licAt l (n : Int).toNat).quota < used.getD (n : Int).toNat 0 + t.many) := by
  unfold dealAt
  rw [Int.toNat_natCast, Bool.and_eq_true, decide_eq_true_eq]
  constructor
  · rintro ⟨h1, h2⟩ (h | h)
    · rw [h1] at h; cases h
    · omega
  · intro h
    exact ⟨by cases hg : goodB b (licAt l n) t with | true => rfl | false => exact absurd (.inl hg) h, by apply Decidable.byContradiction; intro h2; exact h (.inr (by omega))⟩
theorem deals_mem (b : Book) (l : List Licence) : ∀ (ts : List Take) (now : DealS) (used : List Int) (z : DealS),
    z ∈ dealsFrom b l ts now used ↔ ∃ ns, z.1 = now.1 ++ ns ∧ ns.length = ts.length ∧ dealOkB l ns = true ∧ dealsGo b l ts ns used now.2 = (true, z.2)
  | [], now, used, z => by
    unfold dealsFrom
    rw [List.mem_singleton]
    constructor
    · rintro rfl; exact ⟨[], by simp, rfl, rfl, rfl⟩
    · rintro ⟨ns, h1, h2, _, h4⟩
      obtain rfl := List.eq_nil_of_length_eq_zero h2
      have h5 := congrArg Prod.snd h4
      have h5 : now.2 = z.2 := h5
      exact Prod.ext (by simpa using h1) h5.symm
  | t :: ts, now, used, z => by
    unfold dealsFrom
    rw [List.mem_append, List.mem_flatMap, deals_mem b l ts]
    constructor
    · rintro (⟨ns, h1, h2, h3, h4⟩ | ⟨n, hn, hz⟩)
      · refine ⟨-1 :: ns, by simpa using h1, by simpa using h2, ?_, ?_⟩
        · rw [dealOkB_cons, h3, Bool.and_true, inB_iff]; omega
        · unfold dealsGo; rw [if_pos rfl]; exact h4
      · have hn := List.mem_range.1 hn
        by_cases hd : dealAt b l t used n = true
        · rw [if_pos hd, deals_mem b l ts] at hz
          obtain ⟨ns, h1, h2, h3, h4⟩ := hz
          refine ⟨(n : Int) :: ns, by simpa using h1, by simpa using h2, ?_, ?_⟩
          · rw [dealOkB_cons, h3, Bool.and_true, inB_iff]; omega
          · unfold dealsGo; rw [if_neg (by omega), if_neg (dealOk_of.1 hd)]; simpa using h4
        · rw [if_neg hd] at hz; cases hz
    · rintro ⟨ns, h1, h2, h3, h4⟩
      cases ns with
      | nil => cases h2
      | cons n ns =>
        rw [dealOkB_cons, Bool.and_eq_true, inB_iff] at h3
        obtain ⟨⟨h5, h6⟩, h3⟩ := h3
        have h7 : ns.length = ts.length := by simpa using h2
        unfold dealsGo at h4
        by_cases hn : n = -1
        · subst hn
          rw [if_pos rfl] at h4
          exact .inl ⟨ns, by simpa using h1, h7, h3, h4⟩
        · rw [if_neg hn] at h4
          obtain ⟨m, rfl⟩ : ∃ m : Nat, n = m := ⟨n.toNat, by omega⟩
          by_cases hd : dealAt b l t used m = true
          · rw [if_neg (dealOk_of.1 hd)] at h4
            refine .inr ⟨m, List.mem_range.2 (by omega), ?_⟩
            rw [if_pos hd, deals_mem b l ts]
            exact ⟨ns, by simpa using h1, h7, h3, by simpa using h4⟩
          · rw [if_pos (Decidable.not_not.1 (fun h => hd (dealOk_of.2 h)))] at h4
            cases h4
/-- They stand in the order of lists. -/
theorem deals_sorted (b : Book) (l : List Licence) : ∀ (ts : List Take) (now : DealS) (used : List Int), (dealsFrom b l ts now used).Pairwise (fun x y => befI x.1 y.1 = true)
  | [], _, _ => List.pairwise_singleton _ _
  | t :: ts, now, used => by
    unfold dealsFrom
    have key : ∀ (c : Int) (r : Int) (u : List Int) (z : DealS), z ∈ dealsFrom b l ts (now.1 ++ [c], r) u → ∃ ns, z.1 = now.1 ++ c :: ns := fun c r u z hz => by
      obtain ⟨ns, h, _⟩ := (deals_mem b l ts _ _ _).1 hz
      exact ⟨ns, by simpa using h⟩
    have keyn : ∀ (n : Nat) (z : DealS), z ∈ (if dealAt b l t used n then dealsFrom b l ts (now.1 ++ [(n : Int)], now.2) (used.set n (used.getD n 0 + t.many)) else []) → ∃ ns, z.1 = now.1 ++ (n : Int) :: ns := fun n z hz => by
      by_cases hd : dealAt b l t used n = true
      · rw [if_pos hd] at hz; exact key _ _ _ _ hz
      · rw [if_neg hd] at hz; cases hz
    rw [List.pairwise_append]
    refine ⟨deals_sorted b l ts _ _, ?_, ?_⟩
    · rw [List.pairwise_flatMap]
      refine ⟨fun n _ => ?_, ?_⟩
      · by_cases hd : dealAt b l t used n = true
        · rw [if_pos hd]; exact deals_sorted b l ts _ _
        · rw [if_neg hd]; exact List.Pairwise.nil
      · refine List.Pairwise.imp ?_ List.pairwise_lt_range
        intro m n hmn x hx y hy
        obtain ⟨a, ha⟩ := keyn m x hx
        obtain ⟨c, hc⟩ := keyn n y hy
        rw [ha, hc, befI_app]; exact befI_lt _ _ (by omega)
    · intro x hx y hy
      obtain ⟨n, _, hy⟩ := List.mem_flatMap.1 hy
      obtain ⟨a, ha⟩ := key _ _ _ x hx
      obtain ⟨c, hc⟩ := keyn n y hy
      rw [ha, hc, befI_app]; exact befI_lt _ _ (by omega)

/-! ### The first of the best -/
theorem best_fold (R : DealS → DealS → Prop) : ∀ (xs : List DealS) (a : DealS), xs.Pairwise R → (∀ x, x ∈ xs → R a x) →
    ∃ y, xs.foldl (stepBest (fun x y : DealS => decide (x.2 < y.2))) (some a) = some y ∧ (y = a ∨ y ∈ xs) ∧ y.2 ≤ a.2 ∧ (y.2 = a.2 → y = a) ∧ ∀ x, x ∈ xs → y.2 ≤ x.2 ∧ (x.2 = y.2 → x = y ∨ R y x)
  | [], a, _, _ => ⟨a, rfl, .inl rfl, Int.le_refl _, fun _ => rfl, fun x hx => by cases hx⟩
  | x :: xs, a, hp, ha => by
    obtain ⟨hx, hp⟩ := List.pairwise_cons.1 hp
    have hax := ha x (List.mem_cons_self ..)
    have ha' := fun z hz => ha z (List.mem_cons_of_mem x hz)
    show ∃ y, xs.foldl _ (if decide (x.2 < a.2) then some x else some a) = some y ∧ _
    by_cases h : x.2 < a.2
    · rw [if_pos (decide_eq_true h)]
      obtain ⟨y, h1, h2, h3, h4, h5⟩ := best_fold R xs x hp hx
      refine ⟨y, h1, .inr (h2.elim (fun h => h ▸ List.mem_cons_self ..) (List.mem_cons_of_mem x)), by omega, fun h => by omega, fun z hz => ?_⟩
      rcases List.mem_cons.1 hz with rfl | hz
      · exact ⟨h3, fun h => .inl (h4 h.symm).symm⟩
      · exact h5 z hz
    · rw [if_neg (by simpa using h)]
      obtain ⟨y, h1, h2, h3, h4, h5⟩ := best_fold R xs a hp ha'
      refine ⟨y, h1, h2.imp id (List.mem_cons_of_mem x), h3, h4, fun z hz => ?_⟩
      rcases List.mem_cons.1 hz with rfl | hz
      · refine ⟨by omega, fun he => .inr ?_⟩
        rw [h4 (by omega)]; exact hax
      · exact h5 z hz
theorem best_first (R : DealS → DealS → Prop) {xs : List DealS} (hp : xs.Pairwise R) (hne : xs ≠ []) :
    ∃ y, firstBest (fun x y : DealS => decide (x.2 < y.2)) xs = some y ∧ y ∈ xs ∧ ∀ x, x ∈ xs → y.2 ≤ x.2 ∧ (x.2 = y.2 → x = y ∨ R y x) := by
  cases xs with
  | nil => exact absurd rfl hne
  | cons a xs =>
    obtain ⟨ha, hp⟩ := List.pairwise_cons.1 hp
    obtain ⟨y, h1, h2, h3, h4, h5⟩ := best_fold R xs a hp ha
    refine ⟨y, h1, h2.elim (fun h => h ▸ List.mem_cons_self ..) (List.mem_cons_of_mem a), fun x hx => ?_⟩
    rcases List.mem_cons.1 hx with rfl | hx
    · exact ⟨h3, fun h => .inl (h4 h.symm).symm⟩
    · exact h5 x hx
structure BestDeal (b : Book) (l : List Licence) (ts : List Take) (y : DealS) : Prop where
  len : y.1.length = ts.length
  ok : dealOkB l y.1 = true
  go : dealsB b l ts y.1 = (true, y.2)
  best : ∀ d m, d.length = ts.length → dealOkB l d = true → dealsB b l ts d = (true, m) → y.2 ≤ m ∧ (m = y.2 → befI d y.1 = false)
theorem dealOf_best (b : Book) (l : List Licence) (ts : List Take) : BestDeal b l ts (dealOf b l ts) := by
  obtain ⟨y, h1, h2, h3⟩ := best_first (fun x y => befI x.1 y.1 = true) (deals_sorted b l ts ([], 0) (List.replicate l.length 0)) (dealsFrom_ne b l ts _ _)
  have he : dealOf b l ts = y := by unfold dealOf dealsOf; rw [h1]; rfl
  rw [he]
  obtain ⟨ns, k1, k2, k3, k4⟩ := (deals_mem b l ts _ _ _).1 h2
  have k1 : y.1 = ns := by simpa using k1
  subst k1
  refine ⟨k2, k3, k4, fun d m h4 h5 h6 => ?_⟩
  have hm : (d, m) ∈ dealsFrom b l ts ([], 0) (List.replicate l.length 0) := (deals_mem b l ts _ _ _).2 ⟨d, by simp, h4, h5, h6⟩
  obtain ⟨q1, q2⟩ := h3 _ hm
  refine ⟨q1, fun h => ?_⟩
  rcases q2 h with h | h
  · rw [← h]; exact befI_self d
  · exact befI_asym _ _ h

/-! ### Richer licences -/
def richOf (more : Int) (x : Licence) : Licence := ⟨x.river, x.first, x.last, min 100 (x.quota + more)⟩
theorem rich_at {more : Int} {l : List Licence} {k : Nat} (h : k < l.length) : licAt (l.map (richOf more)) k = richOf more (licAt l k) := by
  unfold licAt
  rw [List.getD_eq_getElem?_getD, List.getD_eq_getElem?_getD, List.getElem?_map, List.getElem?_eq_getElem h]; rfl
theorem rich_go (b : Book) {l : List Licence} {more : Int} (h0 : 0 ≤ more) (hq : ∀ x, x ∈ l → x.quota ≤ 100) : ∀ (ts : List Take) (ns : List Int) (used : List Int) (rest r : Int), dealOkB l ns = true →
    dealsGo b l ts ns used rest = (true, r) → dealsGo b (l.map (richOf more)) ts ns used rest = (true, r)
  | [], ns, used, rest, r, _, h => by cases ns <;> exact h
  | t :: ts, [], used, rest, r, _, h => h
  | t :: ts, n :: ns, used, rest, r, hok, h => by
    rw [dealOkB_cons, Bool.and_eq_true, inB_iff] at hok
    obtain ⟨⟨h5, h6⟩, hok⟩ := hok
    unfold dealsGo at h ⊢
    by_cases hn : n = -1
    · rw [if_pos hn] at h ⊢
      exact rich_go b h0 hq ts ns used _ r hok h
    · rw [if_neg hn] at h ⊢
      have hl : n.toNat < l.length := by omega
      rw [rich_at hl]
      by_cases hc : goodB b (licAt l n.toNat) t = false ∨ (licAt l n.toNat).quota < used.getD n.toNat 0 + t.many
      · rw [if_pos hc] at h; cases h
      · rw [if_neg hc] at h
        have hq1 := hq (licAt l n.toNat) (by unfold licAt; rw [List.getD_eq_getElem?_getD, List.getElem?_eq_getElem hl]; exact List.getElem_mem hl)
        have hc' : ¬ (goodB b (richOf more (licAt l n.toNat)) t = false ∨ (richOf more (licAt l n.toNat)).quota < used.getD n.toNat 0 + t.many) := by
          rintro (h7 | h7)
          · exact hc (.inl h7)
          · refine hc (.inr ?_); have : (richOf more (licAt l n.toNat)).quota = min 100 ((licAt l n.toNat).quota + more) := rfl; omega
        rw [if_neg hc']
        exact rich_go b h0 hq ts ns _ rest r hok h
theorem rich_best {b : Book} {l : List Licence} {ts : List Take} {more : Int} (h0 : 0 ≤ more) (hq : ∀ x, x ∈ l → x.quota ≤ 100) : (dealOf b (l.map (richOf more)) ts).2 ≤ (dealOf b l ts).2 := by
  have h1 := dealOf_best b l ts
  refine ((dealOf_best b (l.map (richOf more)) ts).best (dealOf b l ts).1 _ h1.len ?_ ?_).1
  · have := h1.ok; unfold dealOkB at *; rw [List.length_map]; exact this
  · have := rich_go b h0 hq ts _ _ _ _ h1.ok h1.go
    unfold dealsB; rw [List.length_map]; exact this
theorem rich_lics {b : Book} {l : List Licence} {more : Int} (h0 : 0 ≤ more) (h : areLicencesB b l = true) : areLicencesB b (l.map (richOf more)) = true := by
  unfold areLicencesB at *
  rw [Bool.and_eq_true, Bool.not_eq_true', List.any_eq_false, decide_eq_true_eq] at *
  refine ⟨by rw [List.length_map]; exact h.1, fun x hx => ?_⟩
  obtain ⟨y, hy, rfl⟩ := List.mem_map.1 hx
  have h2 := h.2 y hy
  unfold badLicence richOf at *
  simp only [Bool.or_eq_true, Bool.not_eq_true', decide_eq_true_eq, not_or, Bool.not_eq_false, inB_iff] at *
  exact ⟨h2.1, by have := h2.2; omega, by have := h2.2; omega⟩
end Go.Proofs.YtabkfohbdfpdpaaGreatDoor
