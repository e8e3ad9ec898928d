/- OrderLetters: the statement and its card. -/
import Derived.Test.YtokananogogjaaaGreatDoorOltr
import Derived.Test.YtokananogogjaaaGreatDoorWopq
import Derived.Test.YtokananogogjaaaGreatDoorFacta
import Derived.Test.YtokananogogjaaaGreatDoorFactb
import Derived.Test.YtokananogogjaaaGreatDoorFactc
import Derived.Test.YtokananogogjaaaGreatDoorFactd
import Derived.Test.YtokananogogjaaaGreatDoorGOrderLetters
namespace Go.Proofs.YtokananogogjaaaGreatDoor.orderLetters
open Go.ChangeShapes Go.WideShapes Go.ChangeAt Go.ChangeMaps Go.RowKit

section
variable {H : Type} {enc : TypeId × Value → H} {w : World} {base : Nat} {spare : Nat → Bool} {held : Bool}
theorem trodAll_n {t0 t1 t2 t3 : TypeId} {args : Array Value} {ds : List (DataW H)} {ps : List MemPlace} (h : DataW.TrodAll enc Tryz.prog w base spare held [t0, t1, t2, t3] args.toList ds ps) :
    ∃ v0 v1 v2 v3 d0 d1 d2 d3 p0 p1 p2 p3, args = #[v0, v1, v2, v3] ∧ ds = [d0, d1, d2, d3] ∧ ps = p0 ++ p1 ++ p2 ++ p3 ∧ DataW.Trod enc Tryz.prog w base spare held t0 v0 d0 p0 ∧ DataW.Trod enc Tryz.prog w base spare held t1 v1 d1 p1 ∧ DataW.Trod enc Tryz.prog w base spare held t2 v2 d2 p2 ∧ DataW.Trod enc Tryz.prog w base spare held t3 v3 d3 p3 := by
  obtain ⟨v0, vs0, d0, ds0, p0, q0, hargs, rfl, rfl, h0, r0⟩ := trodAll_cons h
  obtain ⟨v1, vs1, d1, ds1, p1, q1, rfl, rfl, rfl, h1, r1⟩ := trodAll_cons r0
  obtain ⟨v2, vs2, d2, ds2, p2, q2, rfl, rfl, rfl, h2, r2⟩ := trodAll_cons r1
  obtain ⟨v3, vs3, d3, ds3, p3, q3, rfl, rfl, rfl, h3, r3⟩ := trodAll_cons r2
  obtain ⟨rfl, rfl, rfl⟩ := trodAll_nil r3
  exact ⟨v0, v1, v2, v3, d0, d1, d2, d3, p0, p1, p2, p3, by cases args; simp_all, rfl, by simp, h0, h1, h2, h3⟩
end
theorem reads : Reads Tryz.f3.params.toList := by
  rw [Tryz.params3]
  intro t ht
  have ht' : t = 25 ∨ t = 28 ∨ t = 31 ∨ t = 3 := by simpa using ht
  rcases ht' with rfl | rfl | rfl | rfl
  all_goals exact ⟨by kernel_rfl, of_decide_eq_true (by kernel_rfl)⟩
set_option maxRecDepth 100000 in
theorem facts : joinedFacts Tryz.prog 3 Tryz.f3 (OpenSpec.ofChange Rows.orderLettersSpec).bare Rows.orderLettersRow = true := by
  unfold joinedFacts
  rw [mayEnter_ok, show (Rows.orderLettersRow.lifted == Tryz.prog.liftsFinal) = true from lifts_ok, show (Tryz.prog.make == some Rows.orderLettersRow.make) = true from make_ok]
  kernel_rfl
set_option maxRecDepth 100000 in
theorem contract (H : Type) (enc : TypeId × Value → H) (W : World) (base : Nat) (args : Array Value) (ds gs : List (DataW H)) (before : List MemPlace)
    (hval : ∀ (j : Nat) t v, Tryz.f3.params[j]? = some t → args[j]? = some v → Value.okWide Tryz.prog W .any base t v)
    (hW : DataW.Whole enc Tryz.prog Tryz.f3.params.toList Rows.orderLettersSpec.vars false W args.toList ds gs before) (hL : laidMetH Tryz.prog Rows.orderLettersRow.laid W) (hsh : W.ShapedOpen Tryz.prog) :
    Calls Tryz.prog 3 args W fun e W' => ∃ v, e = .returned v ∧ Rows.orderLettersSpec.post enc Tryz.prog Tryz.f3 false true false false W args v W' := by
  have hW' := hW
  obtain ⟨p, q, hA0, hV, rfl, hfz, hnd⟩ := hW
  have hA : DataW.TrodAll enc Tryz.prog W 0 (fun _ => true) true Tryz.f3.params.toList args.toList ds p := hA0
  rw [Tryz.params3] at hA hval
  obtain ⟨v0, v1, v2, v3, d0, d1, d2, d3, p0, p1, p2, p3, rfl, rfl, rfl, h0, h1, h2, h3⟩ := trodAll_n hA
  obtain ⟨rfl, rfl⟩ := trodVars_none hV
  obtain ⟨x0, hx0⟩ := book_of (hval 0 25 v0 rfl rfl) h0
  obtain ⟨x1, hx1⟩ := buyer_of (hval 1 28 v1 rfl rfl) h1
  obtain ⟨x2, hx2⟩ := truth_of (hval 2 31 v2 rfl rfl) h2
  obtain ⟨x3, rfl, rfl, rfl, hx3⟩ := open_int Tryz.underlying3 (hval 3 3 v3 rfl rfl) h3
  refine (orderLetters_any v0 x0 v1 x1 v2 x2 x3 W hx0 hx1 hx2 (tab_rows hL) (max_shaped hsh)).mono fun e W' ⟨he, hx⟩ => ?_
  subst he
  exact ⟨_, rfl, post_true rfl (by kernel_rfl) reads hW' ⟨rfl, rfl, rfl⟩ hx⟩

theorem whole (os : Os) {H : Type} (enc : TypeId × Value → H) : DataW.whole enc Tryz.prog ((laidWorld os).forCall (fun _ _ => 0) ⟨#[], #[(.agg #[.slice none 0 0, zero, zero, .slice none 0 0]), (.agg #[zero, .slice none 0 0]), (.agg #[.slice none 0 0]), zero], []⟩).memory Tryz.f3.params.toList Rows.orderLettersSpec.vars false #[(.agg #[.slice none 0 0, zero, zero, .slice none 0 0]), (.agg #[zero, .slice none 0 0]), (.agg #[.slice none 0 0]), zero].toList 8 = some ([.agg [.nil, zeroD, zeroD, .nil], .agg [zeroD, .nil], .agg [.nil], zeroD], [], []) := by kernel_rfl
theorem laid_here (os : Os) (args : Array Value) : laidMet Tryz.prog Rows.orderLettersRow.laid ((laidWorld os).forCall (fun _ _ => 0) ⟨#[], args, []⟩).memory := laid_met os args

set_option maxRecDepth 100000 in
theorem lifted (os : Os) (started : os.Started) (H : Type) (enc : TypeId × Value → H) (F : Stop.Interp) :
    ReturnsInHanded {} Tryz.checked os 3 .any ((OpenSpec.ofChange Rows.orderLettersSpec).preRow enc Tryz.prog Tryz.f3 Rows.orderLettersRow.domain false Rows.orderLettersRow.laid) (((OpenSpec.ofChange Rows.orderLettersSpec).at F).post enc Tryz.prog Tryz.f3 false true false false) := by
  refine returnsInHanded_of_row (C := Tryz.checked) (s := OpenSpec.ofChange Rows.orderLettersSpec) own started (by kernel_rfl) Tryz.func3
    (witness_row_at (enc := enc) (C := Tryz.checked) false (laidWorld os) #[(.agg #[.slice none 0 0, zero, zero, .slice none 0 0]), (.agg #[zero, .slice none 0 0]), (.agg #[.slice none 0 0]), zero] rfl (by kernel_rfl) (by kernel_rfl) (by kernel_rfl)
      (OpenSpec.preRow_of_cond 8 (whole os enc) (by kernel_rfl) (fun k hk => by cases hk) (by kernel_rfl) (laid_here os _))) ?_
  intro W base args ds gs before hval hW _ _ _ hL hsh _
  exact contract H enc W base args ds gs before hval hW hL hsh

theorem said : Rows.OrderLettersSaid :=
  OpenClaim.holds_of_cond 3 Tryz.f3 rfl rfl rfl rfl rfl rfl rfl ⟨rfl, rfl, rfl, rfl, rfl⟩ rfl rfl rfl rfl rfl (by kernel_rfl) Tryz.func3 facts
    (of_decide_eq_true (by kernel_rfl)) (by unfold Func.isWrapper; first | (rw [if_pos (by decide +kernel)]; kernel_rfl) | (rw [if_neg (by decide +kernel)]; exact ⟨rfl, rfl⟩))
    (fun os started H enc _ F => by rw [OpenClaim.pre_eq_preRow]; exact lifted os started H enc F)

theorem plain (f : FuncId) (fn : Func) (hf : Tryz.pinned.checked.prog.funcNamed "nacre/nacrelaw09.OrderLetters" = some f) (hfn : Tryz.pinned.checked.prog.funcs[f]? = some fn) :
    true = Tryz.pinned.checked.prog.looks [] ∧ ∀ (j : Nat) t, fn.params[j]? = some t → Tryz.pinned.checked.prog.wantsStandIn t = false := by
  obtain rfl : f = 3 := Option.some.inj ((show Tryz.prog.funcNamed "nacre/nacrelaw09.OrderLetters" = some 3 by kernel_rfl).symm.trans hf) |>.symm
  obtain rfl : fn = Tryz.f3 := (Option.some.inj (Tryz.func3.symm.trans hfn)).symm
  refine ⟨by kernel_rfl, fun j t ht => ?_⟩
  have h1 : t ∈ Tryz.f3.params.toList := by simpa using Array.mem_of_getElem? ht
  rw [Tryz.params3] at h1
  have h2 : t = 25 ∨ t = 28 ∨ t = 31 ∨ t = 3 := by simpa using h1
  rcases h2 with rfl | rfl | rfl | rfl
  · exact (show Tryz.prog.wantsStandIn 25 = false by kernel_rfl)
  · exact (show Tryz.prog.wantsStandIn 28 = false by kernel_rfl)
  · exact (show Tryz.prog.wantsStandIn 31 = false by kernel_rfl)
  · exact (show Tryz.prog.wantsStandIn 3 = false by kernel_rfl)

theorem card : Rows.OrderLettersCardSaid :=
  Claim7.holds_tied_plain_at .later [] _ _ _ _ said (fun _ h => by cases h) (by kernel_rfl) (fun _ h => by cases h) orderLetters_row_tie rfl ⟨rfl, rfl⟩ main_ok rfl plain goes_orderLetters
end Go.Proofs.YtokananogogjaaaGreatDoor.orderLetters
