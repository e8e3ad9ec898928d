/- Which list comes before another one; the reference's Before. -/
import Derived.Test.YtapkbonlijhmjaaGreatDoorSame
namespace Go.Proofs.YtapkbonlijhmjaaGreatDoor
open Go.RowKit

/-- A list comes before another one. -/
def befB : List Int → List Int → Bool
  | x :: a, y :: b => if x = y then befB a b else decide (x < y)
  | a, b => decide (a.length < b.length)
theorem befB_self : ∀ a, befB a a = false
  | [] => by simp [befB]
  | x :: a => by simp [befB, befB_self a]
theorem befB_app : ∀ (now a b : List Int), befB (now ++ a) (now ++ b) = befB a b
  | [], _, _ => rfl
  | x :: now, a, b => by simp [befB, befB_app now a b]
theorem befB_gt {n m : Int} (h : m < n) (now a b : List Int) : befB (now ++ n :: a) (now ++ m :: b) = false := by
  rw [befB_app]
  unfold befB
  rw [if_neg (by omega)]
  simp; omega
theorem befB_at : ∀ {a b : List Int} {k : Nat} {x y : Int}, a.take k = b.take k → a[k]? = some x → b[k]? = some y → x ≠ y → befB a b = decide (x < y)
  | [], _, k, x, y, _, h, _, _ => by simp at h
  | _ :: _, [], k, x, y, _, _, h, _ => by simp at h
  | p :: a, q :: b, 0, x, y, _, hx, hy, hn => by
    simp at hx hy; subst hx hy
    unfold befB; rw [if_neg hn]
  | p :: a, q :: b, k + 1, x, y, h, hx, hy, hn => by
    simp only [List.take_succ_cons, List.cons.injEq] at h
    simp at hx hy
    obtain ⟨rfl, h⟩ := h
    unfold befB; rw [if_pos rfl]
    exact befB_at h hx hy hn
theorem befB_end : ∀ {a b : List Int} {k : Nat}, a.take k = b.take k → (k = a.length ∨ k = b.length) → k ≤ a.length → k ≤ b.length → befB a b = decide (a.length < b.length)
  | [], b, _, _, _, _, _ => by unfold befB; rfl
  | _ :: _, [], _, _, _, _, _ => by unfold befB; rfl
  | p :: a, q :: b, 0, _, h, _, _ => by simp at h
  | p :: a, q :: b, k + 1, h, he, h1, h2 => by
    simp only [List.take_succ_cons, List.cons.injEq] at h
    obtain ⟨rfl, h⟩ := h
    unfold befB; rw [if_pos rfl, befB_end h (by simp at he; omega) (by simp at h1; omega) (by simp at h2; omega)]
    simp

set_option maxHeartbeats 2000000 in
theorem rbefore_any (v v' : Value) (xs ys : List Int) (w : World) (hv : IntsAt w v xs) (hv' : IntsAt w v' ys) :
    Calls Tryz.prog 79 #[v, v'] w fun e w' => e = .returned (.bool (befB xs ys)) ∧ Ext w w' := by
  obtain ⟨a, c, rfl, h1, h2, h3⟩ := hv.open
  obtain ⟨a', c', rfl, h1', h2', h3'⟩ := hv'.open
  have hmix : Tryz.prog.follows .mixedOrders = true := by kernel_rfl
  have H3 := Lib.hid h3
  have H3' := Lib.hid h3'
  clear h3 h3' hv hv'
  go_enter Tryz.func79, Tryz.ntmps79
  go_wp2
  go_loopw [5] (fun i wr => ∃ k : Nat, k ≤ xs.length ∧ k ≤ ys.length ∧ i = .int .i64 k ∧ Hid (xs.take k = ys.take k) ∧ Ext w wr) (fun i _ => xs.length - (intOf i).toNat)
  case atStart => exact ⟨0, Nat.zero_le _, Nat.zero_le _, rfl, by simp [Hid], Ext.refl _⟩
  case round =>
    obtain ⟨k, hk, hk', rfl, hE, hx⟩ := hrel
    by_cases hlt : k < xs.length
    · have x2 : decide ((k : Int) < (xs.length : Int)) = true := by simpa using hlt
      by_cases hlt' : k < ys.length
      · have x3 : decide ((k : Int) < (ys.length : Int)) = true := by simpa using hlt'
        obtain ⟨b, o, x, rfl, hxk, hc⟩ := H3.out k hlt
        obtain ⟨b', o', y, rfl, hyk, hc'⟩ := H3'.out k hlt'
        have d0 := hx.cell hc
        have d1 := hx.cell hc'
        clear hc hc'
        by_cases hxy : x = y
        · subst hxy
          have hs := Lib.hid (take_eq_succ hE.out hxk.out hyk.out rfl)
          go_wp2
          go_quiet (fail)
          go_wp2
          exact ⟨⟨k + 1, by omega, by omega, by go_num, hs.out, hx.drewN _⟩, by simp [intOf]; omega⟩
        · have HB := Lib.hid (befB_at hE.out hxk.out hyk.out hxy)
          have t4 : (x == y) = false := by simpa using hxy
          have t5 : (x != y) = true := by simpa using hxy
          clear hxy
          go_wp2
          go_quiet (fail)
          go_wp2
          go_quiet (fail)
          go_wp2
          go_ret
          exact ⟨by rw [HB.out] <;> rfl, by first | exact hx.drewN _ | exact (hx.drewN _).drewN _⟩
      · have hke : k = ys.length := by omega
        have x3 : decide ((k : Int) < (ys.length : Int)) = false := by simp; omega
        have HB := Lib.hid (befB_end hE.out (.inr hke) hk hk')
        have HD : Hid (decide (xs.length < ys.length) = decide ((xs.length : Int) < (ys.length : Int))) := by unfold Hid; simp
        clear hke
        go_wp2
        go_ret
        exact ⟨by rw [HB.out, HD.out] <;> rfl, hx⟩
    · have hke : k = xs.length := by omega
      have x2 : decide ((k : Int) < (xs.length : Int)) = false := by simp; omega
      have HB := Lib.hid (befB_end hE.out (.inl hke) hk hk')
      have HD : Hid (decide (xs.length < ys.length) = decide ((xs.length : Int) < (ys.length : Int))) := by unfold Hid; simp
      clear hke
      go_wp2
      go_ret
      exact ⟨by rw [HB.out, HD.out] <;> rfl, hx⟩
end Go.Proofs.YtapkbonlijhmjaaGreatDoor
