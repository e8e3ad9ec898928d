/- RiverReads: the statement and its card. -/
import Derived.Test.YtdmdabhdcpjkiaaGreatDoorReadsl
import Derived.Test.YtdmdabhdcpjkiaaGreatDoorOpen
import Derived.Test.YtdmdabhdcpjkiaaGreatDoorJoin
import Derived.Test.YtdmdabhdcpjkiaaGreatDoorFacta
import Derived.Test.YtdmdabhdcpjkiaaGreatDoorFactb
import Derived.Test.YtdmdabhdcpjkiaaGreatDoorFactc
import Derived.Test.YtdmdabhdcpjkiaaGreatDoorFactd
import Derived.Test.YtdmdabhdcpjkiaaGreatDoorGRiverReads
namespace Go.Proofs.YtdmdabhdcpjkiaaGreatDoor.riverReads
open Go.ChangeShapes Go.WideShapes Go.ChangeAt Go.ChangeMaps Go.RowKit

/-! The witness's world: the other rows' world, with the two tables of 'unicode/utf8' that this row lists besides. -/
def cellsOfT : DataW Unit → List Value
  | .lit (.int k z) => [.int k z]
  | .agg xs => xs.map cellOf
  | _ => []
def layT (d : DataW Unit) : Obj → Obj
  | .cells _ t frozen => .cells (match d with | .agg xs => (xs.flatMap cellsOfT).toArray | _ => #[]) t frozen
  | o => o
noncomputable def laidWorldT (os : Os) : World :=
  { laidWorld os with heap := ((laidWorld os).heap.modify 3 (layT Rows.laid_unicode_utf8_acceptRanges)).modify 2 (layT Rows.laid_unicode_utf8_first) }
theorem laid_metT (os : Os) (args : Array Value) : laidMet Tryz.prog Rows.riverReadsRow.laid ((laidWorldT os).forCall (fun _ _ => 0) ⟨#[], args, []⟩).memory :=
  laidMet_of_run' 8 (by kernel_rfl) (by kernel_rfl)
theorem tab_rowsT {W : World} (h : laidMetH Tryz.prog Rows.riverReadsRow.laid W) : TabOk W := tab_of (by kernel_rfl) h
theorem reads : Reads Tryz.f6.params.toList := by
  rw [Tryz.params6]
  intro t ht
  have ht' : t = 9 := by simpa using ht
  rcases ht' with rfl
  all_goals exact ⟨by kernel_rfl, of_decide_eq_true (by kernel_rfl)⟩
set_option maxRecDepth 100000 in
theorem facts : joinedFacts Tryz.prog 6 Tryz.f6 (OpenSpec.ofChange Rows.riverReadsSpec).bare Rows.riverReadsRow = true := by
  unfold joinedFacts
  rw [mayEnter_ok, show (Rows.riverReadsRow.lifted == Tryz.prog.liftsFinal) = true from lifts_ok, show (Tryz.prog.make == some Rows.riverReadsRow.make) = true from make_ok]
  kernel_rfl
set_option maxRecDepth 100000 in
theorem contract (H : Type) (enc : TypeId × Value → H) (W : World) (base : Nat) (args : Array Value) (ds gs : List (DataW H)) (before : List MemPlace)
    (hval : ∀ (j : Nat) t v, Tryz.f6.params[j]? = some t → args[j]? = some v → Value.okWide Tryz.prog W .any base t v)
    (hW : DataW.Whole enc Tryz.prog Tryz.f6.params.toList Rows.riverReadsSpec.vars false W args.toList ds gs before) (hL : laidMetH Tryz.prog Rows.riverReadsRow.laid W) (hsh : W.ShapedOpen Tryz.prog) :
    Calls Tryz.prog 6 args W fun e W' => ∃ v, e = .returned v ∧ Rows.riverReadsSpec.post enc Tryz.prog Tryz.f6 false true false false W args v W' := by
  have hW' := hW
  obtain ⟨p, q, hA0, hV, rfl, hfz, hnd⟩ := hW
  have hA : DataW.TrodAll enc Tryz.prog W 0 (fun _ => true) true Tryz.f6.params.toList args.toList ds p := hA0
  rw [Tryz.params6] at hA hval
  obtain ⟨v0, d0, rfl, rfl, h0⟩ := trodAll_one hA
  obtain ⟨rfl, rfl⟩ := trodVars_none hV
  obtain ⟨x0, rfl, rfl, rfl, hx0⟩ := open_string Tryz.underlying9 (hval 0 9 v0 rfl rfl) h0
  refine (riverReads_any x0 W hx0 (tab_rowsT hL) (max_shaped hsh)).mono fun e W' ⟨he, hx⟩ => ?_
  subst he
  exact ⟨_, rfl, post_true rfl (by kernel_rfl) reads hW' ⟨rfl, rfl, rfl⟩ hx⟩

theorem whole (os : Os) {H : Type} (enc : TypeId × Value → H) : DataW.whole enc Tryz.prog ((laidWorldT os).forCall (fun _ _ => 0) ⟨#[], #[(.string ByteArray.empty)], []⟩).memory Tryz.f6.params.toList Rows.riverReadsSpec.vars false #[(.string ByteArray.empty)].toList 8 = some ([.lit (.string [])], [], []) := by kernel_rfl
theorem laid_here (os : Os) (args : Array Value) : laidMet Tryz.prog Rows.riverReadsRow.laid ((laidWorldT os).forCall (fun _ _ => 0) ⟨#[], args, []⟩).memory := laid_metT os args

set_option maxRecDepth 100000 in
theorem lifted (os : Os) (started : os.Started) (H : Type) (enc : TypeId × Value → H) (F : Stop.Interp) :
    ReturnsInHanded {} Tryz.checked os 6 .any ((OpenSpec.ofChange Rows.riverReadsSpec).preRow enc Tryz.prog Tryz.f6 Rows.riverReadsRow.domain false Rows.riverReadsRow.laid) (((OpenSpec.ofChange Rows.riverReadsSpec).at F).post enc Tryz.prog Tryz.f6 false true false false) := by
  refine returnsInHanded_of_row (C := Tryz.checked) (s := OpenSpec.ofChange Rows.riverReadsSpec) own started (by kernel_rfl) Tryz.func6
    (witness_row_at (enc := enc) (C := Tryz.checked) false (laidWorldT os) #[(.string ByteArray.empty)] rfl (by kernel_rfl) (by kernel_rfl) (by kernel_rfl)
      (OpenSpec.preRow_of_cond 8 (whole os enc) (by kernel_rfl) (fun k hk => by cases hk) (by kernel_rfl) (laid_here os _))) ?_
  intro W base args ds gs before hval hW _ _ _ hL hsh _
  exact contract H enc W base args ds gs before hval hW hL hsh

theorem said : Rows.RiverReadsSaid :=
  OpenClaim.holds_of_cond 6 Tryz.f6 rfl rfl rfl rfl rfl rfl rfl ⟨rfl, rfl, rfl, rfl, rfl⟩ rfl rfl rfl rfl rfl (by kernel_rfl) Tryz.func6 facts
    (of_decide_eq_true (by kernel_rfl)) (by unfold Func.isWrapper; first | (rw [if_pos (by decide +kernel)]; kernel_rfl) | (rw [if_neg (by decide +kernel)]; exact ⟨rfl, rfl⟩))
    (fun os started H enc _ F => by rw [OpenClaim.pre_eq_preRow]; exact lifted os started H enc F)

theorem plain (f : FuncId) (fn : Func) (hf : Tryz.pinned.checked.prog.funcNamed "nacre/nacrelaw08.RiverReads" = some f) (hfn : Tryz.pinned.checked.prog.funcs[f]? = some fn) :
    true = Tryz.pinned.checked.prog.looks [] ∧ ∀ (j : Nat) t, fn.params[j]? = some t → Tryz.pinned.checked.prog.wantsStandIn t = false := by
  obtain rfl : f = 6 := Option.some.inj ((show Tryz.prog.funcNamed "nacre/nacrelaw08.RiverReads" = some 6 by kernel_rfl).symm.trans hf) |>.symm
  obtain rfl : fn = Tryz.f6 := (Option.some.inj (Tryz.func6.symm.trans hfn)).symm
  refine ⟨by kernel_rfl, fun j t ht => ?_⟩
  have h1 : t ∈ Tryz.f6.params.toList := by simpa using Array.mem_of_getElem? ht
  rw [Tryz.params6] at h1
  have h2 : t = 9 := by simpa using h1
  rcases h2 with rfl
  · exact (show Tryz.prog.wantsStandIn 9 = false by kernel_rfl)

theorem card : Rows.RiverReadsCardSaid :=
  Claim7.holds_tied_plain_at .later [] _ _ _ _ said (fun _ h => by cases h) (by kernel_rfl) (fun _ h => by cases h) riverReads_row_tie rfl ⟨rfl, rfl⟩ main_ok rfl plain goes_riverReads
end Go.Proofs.YtdmdabhdcpjkiaaGreatDoor.riverReads
