/- What every law's last text shares: the condition behind the call, the witness's world. -/
import Derived.Test.YtoohhefegfpipaaGreatDoorWop
import Derived.Test.YtoohhefegfpipaaGreatDoorOpr
import Derived.Test.YtoohhefegfpipaaGreatDoorCards
import Derived.Test.YtoohhefegfpipaaGreatDoorTie
import Derived.Deep.DeepHandedRow
import Derived.WideKeyArgs
namespace Go.Proofs.YtoohhefegfpipaaGreatDoor
open Go.ChangeShapes Go.WideShapes Go.ChangeAt Go.RowKit
section
variable {H : Type} {enc : TypeId × Value → H}
def Reads (ts : List TypeId) : Prop := ∀ t, t ∈ ts → Tryz.prog.readableRec t = true ∧ t < Tryz.prog.types.size
theorem trodAll_stays {W W' : World} (hx : Ext W W') : ∀ {ts : List TypeId} {vs : List Value} {ds : List (DataW H)} {ps : List MemPlace}, Reads ts → DataW.TrodAll enc Tryz.prog W 0 (fun _ => true) true ts vs ds ps →
  (∀ x, x ∈ ps → x.block < W.heap.size) → DataW.TrodAll enc Tryz.prog W' 0 (fun b => decide (b < W.heap.size)) true ts vs ds ps
 | [], _, _, _, _, h, _ => by
  obtain ⟨rfl, rfl, rfl⟩ := trodAll_nil h
  exact trodAll_mk0
 | t :: ts, _, _, _, hr, h, hlt => by
  obtain ⟨v, vs1, d, ds1, a, b, rfl, rfl, rfl, h1, h2⟩ := trodAll_cons h
  obtain ⟨hq, hs⟩ := hr t (List.mem_cons_self ..)
  exact trodAll_cons_mk (Below.trod laidOut hq hs h1 hx (fun x hx => hlt x (List.mem_append_left _ hx)))
   (trodAll_stays hx (fun u hu => hr u (List.mem_cons_of_mem _ hu)) h2 (fun x hx => hlt x (List.mem_append_right _ hx)))
/-- Behind a call that answered true and left old memory alone. -/
theorem post_true {f : Func} {s : ChangeSpec} {W W' : World} {args : Array Value} {ds gs : List (DataW H)} {before : List MemPlace} (hv : s.vars = []) (hr : f.resultTypes = #[4]) (hp : Reads f.params.toList)
  (hW : DataW.Whole enc Tryz.prog f.params.toList s.vars false W args.toList ds gs before) (hfn : (s.fn H (ds ++ gs)).results = [.lit (.bool true)] ∧ (s.fn H (ds ++ gs)).args = ds ∧ (s.fn H (ds ++ gs)).vars = []) (hx : Ext W W') :
  s.post enc Tryz.prog f false true false false W args (.bool true) W' := by
 obtain ⟨f1, f2, f3⟩ := hfn
 have hlt := fun x hx => hW.lt x hx
 have hW' := hW
 obtain ⟨p, q, hA, hV, rfl, _, _⟩ := hW
 rw [hv] at hV
 obtain ⟨rfl, rfl⟩ := trodVars_none hV
 refine ⟨ds, [], p ++ [], [], p, [], hW', ?_, ?_, ?_, ?_, fun h => by cases h⟩
 ·rw [f1, hr]
  exact trodAll_cons_mk (shut_bool Tryz.underlying4 _) trodAll_mk0
 ·rw [f2]
  exact trodAll_stays hx hp hA (fun x hx => hlt x (List.mem_append_left _ hx))
 ·rw [f3, hv]
  rfl
 ·refine World.keptBut_mono (fun x hx => ⟨hx, Or.inr (Or.inl (by simpa using hx))⟩) (Below.frame hx _)
end
/-! ### The witness's world: the settled one, the tables holding what the row lists -/
def cellOf : DataW Unit → Value
 | .lit (.int k z) => .int k z
 | _ => .bool false
def cellsOfTab : DataW Unit → Array Value
 | .agg xs => (xs.map cellOf).toArray
 | _ => #[]
def lay (d : DataW Unit) : Obj → Obj
 | .cells _ t frozen => .cells (cellsOfTab d) t frozen
 | o => o
/-! Tables whose elements are structs: their cells one after another. -/
def cellsOfT : DataW Unit → List Value
 | .lit (.int k z) => [.int k z]
 | .agg xs => xs.map cellOf
 | _ => []
def layT (d : DataW Unit) : Obj → Obj
 | .cells _ t frozen => .cells (match d with | .agg xs => (xs.flatMap cellsOfT).toArray | _ => #[]) t frozen
 | o => o
noncomputable def laidWorld (os : Os) : World :=
 { World.holding Tryz.prog os ⟨#[], #[], []⟩ with heap := (((((World.holding Tryz.prog os ⟨#[], #[], []⟩).heap.modify 0 (lay Rows.laid_internal_strconv_uint64pow10)).modify 4 (lay Rows.laid_math_bits_deBruijn32tab)).modify 5 (lay Rows.laid_math_bits_deBruijn64tab)).modify 3 (layT Rows.laid_unicode_utf8_acceptRanges)).modify 2 (layT Rows.laid_unicode_utf8_first) }
theorem laid_met (os : Os) (args : Array Value) : laidMet Tryz.prog Rows.orderTruthsRow.laid ((laidWorld os).forCall (fun _ _ => 0) ⟨#[], args, []⟩).memory :=
 laidMet_of_run' 8 (by kernel_rfl) (by kernel_rfl)
/-- The digits' table, out of the row's list. -/
theorem tab_of {l : List (String × DataW Unit)} {w : World} (hl : l.filter (fun x => x.1 == "internal/strconv.uint64pow10") = [("internal/strconv.uint64pow10", Lib.tabData .u64 Lib.pow10Tab)]) (h : laidMetH Tryz.prog l w) : TabOk w := by
 have h1 := laidMetH.filter (fun x => x.1 == "internal/strconv.uint64pow10") h
 rw [hl] at h1
 exact Lib.tabIs_of_head (rest := []) (g := 0) (t := 272) (e := 249) (by kernel_rfl) (by kernel_rfl) Tryz.underlying272 Tryz.underlying249 (by kernel_rfl) (by kernel_rfl) h1
theorem tab_rows {W : World} (h : laidMetH Tryz.prog Rows.orderTruthsRow.laid W) : TabOk W := tab_of (by kernel_rfl) h
theorem own : ownKnob Tryz.prog.godebug = none := by kernel_rfl
def zero : Value := .int .i64 0
def zeroD {H : Type} : DataW H := .lit (.int .i64 0)
end Go.Proofs.YtoohhefegfpipaaGreatDoor
