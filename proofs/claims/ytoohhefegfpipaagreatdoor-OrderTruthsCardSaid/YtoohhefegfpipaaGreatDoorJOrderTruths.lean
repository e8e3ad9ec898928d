/- OrderTruths: the statement and its card. -/
import Derived.Test.YtoohhefegfpipaaGreatDoorOtl
import Derived.Test.YtoohhefegfpipaaGreatDoorWopq
import Derived.Test.YtoohhefegfpipaaGreatDoorFacta
import Derived.Test.YtoohhefegfpipaaGreatDoorFactb
import Derived.Test.YtoohhefegfpipaaGreatDoorFactc
import Derived.Test.YtoohhefegfpipaaGreatDoorFactd
import Derived.Test.YtoohhefegfpipaaGreatDoorGOrderTruths
namespace Go.Proofs.YtoohhefegfpipaaGreatDoor.orderTruths
open Go.ChangeShapes Go.WideShapes Go.ChangeAt Go.ChangeMaps Go.RowKit

theorem reads : Reads Tryz.f3.params.toList := by
  rw [Tryz.params3]
  intro t ht
  have ht' : t = 25 := by simpa using ht
  rcases ht' with rfl
  all_goals exact ⟨by kernel_rfl, of_decide_eq_true (by kernel_rfl)⟩
set_option maxRecDepth 100000 in
theorem facts : joinedFacts Tryz.prog 3 Tryz.f3 (OpenSpec.ofChange Rows.orderTruthsSpec).bare Rows.orderTruthsRow = true := by
  unfold joinedFacts
  rw [mayEnter_ok, show (Rows.orderTruthsRow.lifted == Tryz.prog.liftsFinal) = true from lifts_ok, show (Tryz.prog.make == some Rows.orderTruthsRow.make) = true from make_ok]
  kernel_rfl
set_option maxRecDepth 100000 in
theorem contract (H : Type) (enc : TypeId × Value → H) (W : World) (base : Nat) (args : Array Value) (ds gs : List (DataW H)) (before : List MemPlace)
    (hval : ∀ (j : Nat) t v, Tryz.f3.params[j]? = some t → args[j]? = some v → Value.okWide Tryz.prog W .any base t v)
    (hW : DataW.Whole enc Tryz.prog Tryz.f3.params.toList Rows.orderTruthsSpec.vars false W args.toList ds gs before) (hL : laidMetH Tryz.prog Rows.orderTruthsRow.laid W) (hsh : W.ShapedOpen Tryz.prog) :
    Calls Tryz.prog 3 args W fun e W' => ∃ v, e = .returned v ∧ Rows.orderTruthsSpec.post enc Tryz.prog Tryz.f3 false true false false W args v W' := by
  have hW' := hW
  obtain ⟨p, q, hA0, hV, rfl, hfz, hnd⟩ := hW
  have hA : DataW.TrodAll enc Tryz.prog W 0 (fun _ => true) true Tryz.f3.params.toList args.toList ds p := hA0
  rw [Tryz.params3] at hA hval
  obtain ⟨v0, d0, rfl, rfl, h0⟩ := trodAll_one hA
  obtain ⟨rfl, rfl⟩ := trodVars_none hV
  obtain ⟨x0, hx0⟩ := book_of (hval 0 25 v0 rfl rfl) h0
  refine (orderTruths_any v0 x0 W hx0 (tab_rows hL) (max_shaped hsh)).mono fun e W' ⟨he, hx⟩ => ?_
  subst he
  exact ⟨_, rfl, post_true rfl (by kernel_rfl) reads hW' ⟨rfl, rfl, rfl⟩ hx⟩

theorem whole (os : Os) {H : Type} (enc : TypeId × Value → H) : DataW.whole enc Tryz.prog ((laidWorld os).forCall (fun _ _ => 0) ⟨#[], #[(.agg #[.slice none 0 0, zero, zero, .slice none 0 0])], []⟩).memory Tryz.f3.params.toList Rows.orderTruthsSpec.vars false #[(.agg #[.slice none 0 0, zero, zero, .slice none 0 0])].toList 8 = some ([.agg [.nil, zeroD, zeroD, .nil]], [], []) := by kernel_rfl
theorem laid_here (os : Os) (args : Array Value) : laidMet Tryz.prog Rows.orderTruthsRow.laid ((laidWorld os).forCall (fun _ _ => 0) ⟨#[], args, []⟩).memory := laid_met os args

set_option maxRecDepth 100000 in
theorem lifted (os : Os) (started : os.Started) (H : Type) (enc : TypeId × Value → H) (F : Stop.Interp) :
    ReturnsInHanded {} Tryz.checked os 3 .any ((OpenSpec.ofChange Rows.orderTruthsSpec).preRow enc Tryz.prog Tryz.f3 Rows.orderTruthsRow.domain false Rows.orderTruthsRow.laid) (((OpenSpec.ofChange Rows.orderTruthsSpec).at F).post enc Tryz.prog Tryz.f3 false true false false) := by
  refine returnsInHanded_of_row (C := Tryz.checked) (s := OpenSpec.ofChange Rows.orderTruthsSpec) own started (by kernel_rfl) Tryz.func3
    (witness_row_at (enc := enc) (C := Tryz.checked) false (laidWorld os) #[(.agg #[.slice none 0 0, zero, zero, .slice none 0 0])] rfl (by kernel_rfl) (by kernel_rfl) (by kernel_rfl)
      (OpenSpec.preRow_of_cond 8 (whole os enc) (by kernel_rfl) (fun k hk => by cases hk) (by kernel_rfl) (laid_here os _))) ?_
  intro W base args ds gs before hval hW _ _ _ hL hsh _
  exact contract H enc W base args ds gs before hval hW hL hsh

theorem said : Rows.OrderTruthsSaid :=
  OpenClaim.holds_of_cond 3 Tryz.f3 rfl rfl rfl rfl rfl rfl rfl ⟨rfl, rfl, rfl, rfl, rfl⟩ rfl rfl rfl rfl rfl (by kernel_rfl) Tryz.func3 facts
    (of_decide_eq_true (by kernel_rfl)) (by unfold Func.isWrapper; first | (rw [if_pos (by decide +kernel)]; kernel_rfl) | (rw [if_neg (by decide +kernel)]; exact ⟨rfl, rfl⟩))
    (fun os started H enc _ F => by rw [OpenClaim.pre_eq_preRow]; exact lifted os started H enc F)

theorem plain (f : FuncId) (fn : Func) (hf : Tryz.pinned.checked.prog.funcNamed "nacre/nacrelaw09.OrderTruths" = some f) (hfn : Tryz.pinned.checked.prog.funcs[f]? = some fn) :
    true = Tryz.pinned.checked.prog.looks [] ∧ ∀ (j : Nat) t, fn.params[j]? = some t → Tryz.pinned.checked.prog.wantsStandIn t = false := by
  obtain rfl : f = 3 := Option.some.inj ((show Tryz.prog.funcNamed "nacre/nacrelaw09.OrderTruths" = some 3 by kernel_rfl).symm.trans hf) |>.symm
  obtain rfl : fn = Tryz.f3 := (Option.some.inj (Tryz.func3.symm.trans hfn)).symm
  refine ⟨by kernel_rfl, fun j t ht => ?_⟩
  have h1 : t ∈ Tryz.f3.params.toList := by simpa using Array.mem_of_getElem? ht
  rw [Tryz.params3] at h1
  have h2 : t = 25 := by simpa using h1
  rcases h2 with rfl
  · exact (show Tryz.prog.wantsStandIn 25 = false by kernel_rfl)

theorem card : Rows.OrderTruthsCardSaid :=
  Claim7.holds_tied_plain_at .later [] _ _ _ _ said (fun _ h => by cases h) (by kernel_rfl) (fun _ h => by cases h) orderTruths_row_tie rfl ⟨rfl, rfl⟩ main_ok rfl plain goes_orderTruths
end Go.Proofs.YtoohhefegfpipaaGreatDoor.orderTruths
