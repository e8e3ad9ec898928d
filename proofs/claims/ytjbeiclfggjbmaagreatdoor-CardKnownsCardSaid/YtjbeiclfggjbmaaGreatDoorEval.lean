/- What the specification says of the document's examples: by reckoning. -/
import Derived.Test.YtjbeiclfggjbmaaGreatDoorLaw
import Derived.Test.YtjbeiclfggjbmaaGreatDoorDue
import Derived.Test.YtjbeiclfggjbmaaGreatDoorTextb
namespace Go.Proofs.YtjbeiclfggjbmaaGreatDoor

theorem ev_R : isRoundB rR = true := by decide +kernel
theorem ev_Q : isRoundB rQ = true := by decide +kernel
theorem ev_agR : agreeB rR (-1) = true := by decide +kernel
theorem ev_agQ : agreeB rQ (-1) = false := by decide +kernel
theorem ev_agQ0 : agreeB rQ 0 = true := by decide +kernel
theorem ev_known : knownL rR = [(54, 56), (44, 46)] := by decide +kernel
theorem ev_wrong : wrongL rQ = [0] := by decide +kernel
theorem ev_mends : spanOf (houseL rQ 0 0) = (45, 46) := by decide +kernel
theorem ev_due : dueL rR 10 [89, 99] = [(0, 10), (0, 10)] := by decide +kernel
theorem ev_kept : keptOk rR 10 [89, 99] = true := by decide +kernel
theorem ev_pay : payGo 10 100 [50, 94, 50] = ([10, 0, 10], 6) := by decide +kernel
theorem ev_payOk : payOk 10 100 [50, 94, 50] = true := by decide +kernel
theorem ev_roads : isRoadsB cC = true := by decide +kernel
theorem ev_stops : badStops cC [1, 2] = false := by decide +kernel
theorem ev_loads : ∀ x, x ∈ ordersOf [1, 2] → loadOf cC x ≤ cC.bears := by decide +kernel
theorem ev_tour : bestTour cC [1, 2] = some [1, 2] := by decide +kernel
theorem ev_tourL : lengthOf cC [1, 2] = 14 := by decide +kernel
theorem ev_fill : fillOf kK 53 = some ([2, 0, 1], 3) := by decide +kernel
theorem ev_kinds : isKindsB kK = true := by decide +kernel
theorem ev_max : ¬ cC.bears < maxL cC.loads := by decide +kernel
theorem ev_planL : planLen cC [[1], [2, 3]] = 22 := by decide +kernel

/-! ### The plan -/
def insL (x : List Int) : List (List Int) → List (List Int)
  | [] => [x]
  | y :: l => if leL x y then x :: y :: l else y :: insL x l
def isortL (l : List (List Int)) : List (List Int) := l.foldr insL []
theorem insL_perm (x : List Int) : ∀ l, (insL x l).Perm (x :: l)
  | [] => List.Perm.refl _
  | y :: l => by
    unfold insL
    split
    · exact List.Perm.refl _
    · exact ((insL_perm x l).cons y).trans (List.Perm.swap x y l)
theorem insL_sorted (x : List Int) : ∀ {l : List (List Int)}, l.Pairwise (fun a b => leL a b = true) → (insL x l).Pairwise (fun a b => leL a b = true)
  | [], _ => by simp [insL]
  | y :: l, h => by
    have hy := List.pairwise_cons.1 h
    unfold insL
    split
    · rename_i hxy
      exact List.pairwise_cons.2 ⟨fun z hz => by
        rcases List.mem_cons.1 hz with rfl | hz
        · exact hxy
        · exact leL_trans x y z hxy (hy.1 z hz), h⟩
    · rename_i hxy
      have hyx : leL y x = true := by
        have := leL_total x y
        simp only [Bool.or_eq_true] at this
        exact this.resolve_left hxy
      refine List.pairwise_cons.2 ⟨fun z hz => ?_, insL_sorted x hy.2⟩
      rcases List.mem_cons.1 ((insL_perm x l).mem_iff.1 hz) with rfl | hz
      · exact hyx
      · exact hy.1 z hz
theorem isortL_perm : ∀ l : List (List Int), (isortL l).Perm l
  | [] => List.Perm.refl _
  | x :: l => (insL_perm x _).trans ((isortL_perm l).cons x)
theorem isortL_sorted : ∀ l : List (List Int), (isortL l).Pairwise (fun a b => leL a b = true)
  | [] => List.Pairwise.nil
  | x :: l => insL_sorted x (isortL_sorted l)
theorem sortL_isort (l : List (List Int)) : sortL l = isortL l := (sortL_eq (isortL_perm l) (isortL_sorted l)).symm
theorem ev_plan : bestPlan cC = some [[1], [2, 3]] := by
  have h : plansOf cC = (partsOf cC).map fun x => isortL (x.map (tourOf cC)) := by
    unfold plansOf planOf; exact List.map_congr_left (fun x _ => sortL_isort _)
  unfold bestPlan
  rw [h]
  decide +kernel

/-! ### The text -/
def decF : Nat → Nat → List UInt8
  | 0, _ => []
  | f + 1, u => if u < 10 then [UInt8.ofNat (48 + u)] else decF f (u / 10) ++ [UInt8.ofNat (48 + u % 10)]
theorem decF_eq : ∀ (f u : Nat), 1 ≤ f → u < 10 ^ f → Lib.decDigits u = decF f u
  | f + 1, u, _, hu => by
    rw [Lib.decDigits, decF]
    by_cases h : u < 10
    · rw [dif_pos h, if_pos h]
    · rw [dif_neg h, if_neg h]
      have hf : 1 ≤ f := by
        cases f with
        | zero => simp at hu; omega
        | succ f => omega
      rw [decF_eq f (u / 10) hf (by rw [Nat.pow_succ] at hu; omega)]
def itoaC (n : Int) : List UInt8 := if n < 0 then 45 :: decF 10 n.natAbs else decF 10 n.toNat
theorem itoa_c {n : Int} (h0 : -1000000 ≤ n) (h1 : n ≤ 1000000) : Lib.itoa n = itoaC n := by
  unfold Lib.itoa itoaC
  rw [decF_eq 10 n.natAbs (by omega) (by omega), decF_eq 10 n.toNat (by omega) (by omega)]
def numsC (ns : List Int) : List UInt8 := ns.flatMap fun n => 32 :: itoaC n
theorem numsT_c : ∀ {ns : List Int}, (∀ y, y ∈ ns → -1000000 ≤ y ∧ y ≤ 1000000) → numsT ns = numsC ns
  | [], _ => rfl
  | x :: ns, h => by
    have h1 := h x (by simp)
    have h2 := numsT_c (ns := ns) (fun y hy => h y (by simp [hy]))
    have h3 : numsT (x :: ns) = (32 :: Lib.itoa x) ++ numsT ns := by simp [numsT]
    have h4 : numsC (x :: ns) = (32 :: itoaC x) ++ numsC ns := by simp [numsC]
    rw [h3, h4, h2, itoa_c h1.1 h1.2]
theorem ev_lines : linesT rR = [[114, 111, 117, 110, 100, 32, 49, 50, 32, 50], [119, 101, 105, 103, 104, 32, 50, 32, 51, 32, 53, 32, 52], [104, 111, 117, 115, 101, 32, 54, 48, 32, 53, 32, 52, 32, 55, 32, 49, 32, 49, 56, 53], [104, 111, 117, 115, 101, 32, 53, 48, 32, 52, 32, 51, 32, 57, 32, 49, 32, 49, 53, 48], [97, 108, 108, 32, 49, 48, 48, 32, 48]] := by
  unfold linesT lineT
  simp only [rR, List.map_cons, List.map_nil, House.nums, List.length_cons, List.length_nil]
  rw [numsT_c (by decide), numsT_c (by decide), numsT_c (by decide), numsT_c (by decide), numsT_c (by decide)]
  decide +kernel
theorem ev_text : textT rR = [114, 111, 117, 110, 100, 32, 49, 50, 32, 50, 10, 119, 101, 105, 103, 104, 32, 50, 32, 51, 32, 53, 32, 52, 10, 104, 111, 117, 115, 101, 32, 54, 48, 32, 53, 32, 52, 32, 55, 32, 49, 32, 49, 56, 53, 10, 104, 111, 117, 115, 101, 32, 53, 48, 32, 52, 32, 51, 32, 57, 32, 49, 32, 49, 53, 48, 10, 97, 108, 108, 32, 49, 48, 48, 32, 48, 10, 101, 110, 100, 32, 48, 50, 57, 10] := by
  unfold textT
  rw [ev_lines, show checkT [[114, 111, 117, 110, 100, 32, 49, 50, 32, 50], [119, 101, 105, 103, 104, 32, 50, 32, 51, 32, 53, 32, 52], [104, 111, 117, 115, 101, 32, 54, 48, 32, 53, 32, 52, 32, 55, 32, 49, 32, 49, 56, 53], [104, 111, 117, 115, 101, 32, 53, 48, 32, 52, 32, 51, 32, 57, 32, 49, 32, 49, 53, 48], [97, 108, 108, 32, 49, 48, 48, 32, 48]] = 29 by decide +kernel]
  unfold endT
  rw [itoa_c (by decide) (by decide), itoa_c (by decide) (by decide), itoa_c (by decide) (by decide)]
  decide +kernel
end Go.Proofs.YtjbeiclfggjbmaaGreatDoor
