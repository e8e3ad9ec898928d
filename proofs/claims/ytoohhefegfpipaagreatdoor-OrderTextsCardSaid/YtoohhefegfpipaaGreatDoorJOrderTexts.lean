/- OrderTexts: the statement and its card. -/
import Derived.Test.YtoohhefegfpipaaGreatDoorOtxl
import Derived.Test.YtoohhefegfpipaaGreatDoorJoin
import Derived.Test.YtoohhefegfpipaaGreatDoorFacta
import Derived.Test.YtoohhefegfpipaaGreatDoorFactb
import Derived.Test.YtoohhefegfpipaaGreatDoorFactc
import Derived.Test.YtoohhefegfpipaaGreatDoorFactd
import Derived.Test.YtoohhefegfpipaaGreatDoorGOrderTexts
namespace Go.Proofs.YtoohhefegfpipaaGreatDoor.orderTexts
open Go.ChangeShapes Go.WideShapes Go.ChangeAt Go.ChangeMaps Go.RowKit

theorem reads : Reads Tryz.f8.params.toList := by
  rw [Tryz.params8]
  intro t ht
  have ht' : t = 9 := by simpa using ht
  rcases ht' with rfl
  all_goals exact ⟨by kernel_rfl, of_decide_eq_true (by kernel_rfl)⟩
set_option maxRecDepth 100000 in
theorem facts : joinedFacts Tryz.prog 8 Tryz.f8 (OpenSpec.ofChange Rows.orderTextsSpec).bare Rows.orderTextsRow = true := by
  unfold joinedFacts
  rw [mayEnter_ok, show (Rows.orderTextsRow.lifted == Tryz.prog.liftsFinal) = true from lifts_ok, show (Tryz.prog.make == some Rows.orderTextsRow.make) = true from make_ok]
  kernel_rfl
set_option maxRecDepth 100000 in
theorem contract (H : Type) (enc : TypeId × Value → H) (W : World) (base : Nat) (args : Array Value) (ds gs : List (DataW H)) (before : List MemPlace)
    (hval : ∀ (j : Nat) t v, Tryz.f8.params[j]? = some t → args[j]? = some v → Value.okWide Tryz.prog W .any base t v)
    (hW : DataW.Whole enc Tryz.prog Tryz.f8.params.toList Rows.orderTextsSpec.vars false W args.toList ds gs before) (hL : laidMetH Tryz.prog Rows.orderTextsRow.laid W) (hsh : W.ShapedOpen Tryz.prog) :
    Calls Tryz.prog 8 args W fun e W' => ∃ v, e = .returned v ∧ Rows.orderTextsSpec.post enc Tryz.prog Tryz.f8 false true false false W args v W' := by
  have hW' := hW
  obtain ⟨p, q, hA0, hV, rfl, hfz, hnd⟩ := hW
  have hA : DataW.TrodAll enc Tryz.prog W 0 (fun _ => true) true Tryz.f8.params.toList args.toList ds p := hA0
  rw [Tryz.params8] at hA hval
  obtain ⟨v0, d0, rfl, rfl, h0⟩ := trodAll_one hA
  obtain ⟨rfl, rfl⟩ := trodVars_none hV
  obtain ⟨x0, rfl, rfl, rfl, hx0⟩ := open_string Tryz.underlying9 (hval 0 9 v0 rfl rfl) h0
  refine (orderTexts_any x0 W hx0 (tab_rows hL) (max_shaped hsh)).mono fun e W' ⟨he, hx⟩ => ?_
  subst he
  exact ⟨_, rfl, post_true rfl (by kernel_rfl) reads hW' ⟨rfl, rfl, rfl⟩ hx⟩

theorem whole (os : Os) {H : Type} (enc : TypeId × Value → H) : DataW.whole enc Tryz.prog ((laidWorld os).forCall (fun _ _ => 0) ⟨#[], #[(.string ByteArray.empty)], []⟩).memory Tryz.f8.params.toList Rows.orderTextsSpec.vars false #[(.string ByteArray.empty)].toList 8 = some ([.lit (.string [])], [], []) := by kernel_rfl
theorem laid_here (os : Os) (args : Array Value) : laidMet Tryz.prog Rows.orderTextsRow.laid ((laidWorld os).forCall (fun _ _ => 0) ⟨#[], args, []⟩).memory := laid_met os args

set_option maxRecDepth 100000 in
theorem lifted (os : Os) (started : os.Started) (H : Type) (enc : TypeId × Value → H) (F : Stop.Interp) :
    ReturnsInHanded {} Tryz.checked os 8 .any ((OpenSpec.ofChange Rows.orderTextsSpec).preRow enc Tryz.prog Tryz.f8 Rows.orderTextsRow.domain false Rows.orderTextsRow.laid) (((OpenSpec.ofChange Rows.orderTextsSpec).at F).post enc Tryz.prog Tryz.f8 false true false false) := by
  refine returnsInHanded_of_row (C := Tryz.checked) (s := OpenSpec.ofChange Rows.orderTextsSpec) own started (by kernel_rfl) Tryz.func8
    (witness_row_at (enc := enc) (C := Tryz.checked) false (laidWorld os) #[(.string ByteArray.empty)] rfl (by kernel_rfl) (by kernel_rfl) (by kernel_rfl)
      (OpenSpec.preRow_of_cond 8 (whole os enc) (by kernel_rfl) (fun k hk => by cases hk) (by kernel_rfl) (laid_here os _))) ?_
  intro W base args ds gs before hval hW _ _ _ hL hsh _
  exact contract H enc W base args ds gs before hval hW hL hsh

theorem said : Rows.OrderTextsSaid :=
  OpenClaim.holds_of_cond 8 Tryz.f8 rfl rfl rfl rfl rfl rfl rfl ⟨rfl, rfl, rfl, rfl, rfl⟩ rfl rfl rfl rfl rfl (by kernel_rfl) Tryz.func8 facts
    (of_decide_eq_true (by kernel_rfl)) (by unfold Func.isWrapper; first | (rw [if_pos (by decide +kernel)]; kernel_rfl) | (rw [if_neg (by decide +kernel)]; exact ⟨rfl, rfl⟩))
    (fun os started H enc _ F => by rw [OpenClaim.pre_eq_preRow]; exact lifted os started H enc F)

theorem plain (f : FuncId) (fn : Func) (hf : Tryz.pinned.checked.prog.funcNamed "nacre/nacrelaw09.OrderTexts" = some f) (hfn : Tryz.pinned.checked.prog.funcs[f]? = some fn) :
    true = Tryz.pinned.checked.prog.looks [] ∧ ∀ (j : Nat) t, fn.params[j]? = some t → Tryz.pinned.checked.prog.wantsStandIn t = false := by
  obtain rfl : f = 8 := Option.some.inj ((show Tryz.prog.funcNamed "nacre/nacrelaw09.OrderTexts" = some 8 by kernel_rfl).symm.trans hf) |>.symm
  obtain rfl : fn = Tryz.f8 := (Option.some.inj (Tryz.func8.symm.trans hfn)).symm
  refine ⟨by kernel_rfl, fun j t ht => ?_⟩
  have h1 : t ∈ Tryz.f8.params.toList := by simpa using Array.mem_of_getElem? ht
  rw [Tryz.params8] at h1
  have h2 : t = 9 := by simpa using h1
  rcases h2 with rfl
  · exact (show Tryz.prog.wantsStandIn 9 = false by kernel_rfl)

theorem card : Rows.OrderTextsCardSaid :=
  Claim7.holds_tied_plain_at .later [] _ _ _ _ said (fun _ h => by cases h) (by kernel_rfl) (fun _ h => by cases h) orderTexts_row_tie rfl ⟨rfl, rfl⟩ main_ok rfl plain goes_orderTexts
end Go.Proofs.YtoohhefegfpipaaGreatDoor.orderTexts
