/-
  NARROWER THAN 'FOR EVERY INPUT', by the rows' own cells (each row's printed sentence says how): CardKnowns: laid · CardWrongs: laid · CardDues: laid · CardPays: laid · CardPaid: laid · CardTours: laid · CardShortest: laid · CardPlans: laid · CardFills: laid · CardFilled: laid · CardMore: laid · CardAgrees: laid · CardNamed: laid · CardRuns: laid · CardKeeps: laid · CardFewest: laid · CardTrue: laid · CardEnds: laid · CardPrints: laid · CardReads: laid · CardSpoilt: laid.
  DERIVED. THE GIVEN ROWS OF THIS SEAT. 21 by the template 'for every input the law returns true; each argument reads behind the call as it read before'; 0 by the template 'total and deterministic' (their statements: YtjbeiclfggjbmaaGreatDoorTotals.lean).
  GIVEN WITH THE SEED: the statements are not yours to turn. If you find one false, say at which input.
  Laid BY PROGRAM, IN A SANDBOX (cutbox-rows.mjs): the forced cells as the released guide's own fill.sh prints them over the translation f5286d96deb6b928… (all of the seat's roots in one cut). By AI agents, Wed Nov 11 2026. No macro, syntax, notation, axiom, sorry.
-/
import Derived.Test.YtjbeiclfggjbmaaGreatDoorChecked
import GoSem.PinnedTables
import GoSem.Claim
import GoSem.ClaimJoined
import GoSem.ClaimMapViews
import Derived.JoinedTies
import Derived.KernelRfl
namespace Go.Proofs.YtjbeiclfggjbmaaGreatDoor
/- THE CELL 'sum', in the pinned program and in every row, IS THE sha256 OF THE DUMP (.gsa) THAT YtjbeiclfggjbmaaGreatDoorProg.lean LOADS. Nothing in Lean hashes anything: it is a label: what it is worth is what the hold of that sum in a sandbox is worth. -/
noncomputable def Tryz.pinned : Pinned := { name := "ytjbeiclfggjbmaagreatdoor", sum := "f5286d96deb6b928cedc14beb5f7f67b7fc4048afb980e403b05b0ab31b9e3cb", checked := Tryz.checked }
namespace Rows
def none {H : Type} : Left H := { results := [], args := [] }

/- WHAT THE LISTED PACKAGE-LEVEL VARIABLES READ AS WHEN THE CALL BEGINS. Each datum BY PROGRAM (the guide's laid-datum.mjs) off the statement by which the dump's own 'gosem.cut.vars' lays the variable. In a bare row this is a premise. The card (YtjbeiclfggjbmaaGreatDoorCards.lean) ties it to the program's text. -/
def laid_math_bits_deBruijn32tab {H : Type} : DataW H := .agg [.lit (.int .u8 0), .lit (.int .u8 1), .lit (.int .u8 28), .lit (.int .u8 2), .lit (.int .u8 29), .lit (.int .u8 14), .lit (.int .u8 24), .lit (.int .u8 3), .lit (.int .u8 30), .lit (.int .u8 22), .lit (.int .u8 20), .lit (.int .u8 15), .lit (.int .u8 25), .lit (.int .u8 17), .lit (.int .u8 4), .lit (.int .u8 8), .lit (.int .u8 31), .lit (.int .u8 27), .lit (.int .u8 13), .lit (.int .u8 23), .lit (.int .u8 21), .lit (.int .u8 19), .lit (.int .u8 16), .lit (.int .u8 7), .lit (.int .u8 26), .lit (.int .u8 12), .lit (.int .u8 18), .lit (.int .u8 6), .lit (.int .u8 11), .lit (.int .u8 5), .lit (.int .u8 10), .lit (.int .u8 9)]
def laid_math_bits_deBruijn64tab {H : Type} : DataW H := .agg [.lit (.int .u8 0), .lit (.int .u8 1), .lit (.int .u8 56), .lit (.int .u8 2), .lit (.int .u8 57), .lit (.int .u8 49), .lit (.int .u8 28), .lit (.int .u8 3), .lit (.int .u8 61), .lit (.int .u8 58), .lit (.int .u8 42), .lit (.int .u8 50), .lit (.int .u8 38), .lit (.int .u8 29), .lit (.int .u8 17), .lit (.int .u8 4), .lit (.int .u8 62), .lit (.int .u8 47), .lit (.int .u8 59), .lit (.int .u8 36), .lit (.int .u8 45), .lit (.int .u8 43), .lit (.int .u8 51), .lit (.int .u8 22), .lit (.int .u8 53), .lit (.int .u8 39), .lit (.int .u8 33), .lit (.int .u8 30), .lit (.int .u8 24), .lit (.int .u8 18), .lit (.int .u8 12), .lit (.int .u8 5), .lit (.int .u8 63), .lit (.int .u8 55), .lit (.int .u8 48), .lit (.int .u8 27), .lit (.int .u8 60), .lit (.int .u8 41), .lit (.int .u8 37), .lit (.int .u8 16), .lit (.int .u8 46), .lit (.int .u8 35), .lit (.int .u8 44), .lit (.int .u8 21), .lit (.int .u8 52), .lit (.int .u8 32), .lit (.int .u8 23), .lit (.int .u8 11), .lit (.int .u8 54), .lit (.int .u8 26), .lit (.int .u8 40), .lit (.int .u8 15), .lit (.int .u8 34), .lit (.int .u8 20), .lit (.int .u8 31), .lit (.int .u8 10), .lit (.int .u8 25), .lit (.int .u8 14), .lit (.int .u8 19), .lit (.int .u8 9), .lit (.int .u8 13), .lit (.int .u8 8), .lit (.int .u8 7), .lit (.int .u8 6)]
def laid_internal_strconv_uint64pow10 {H : Type} : DataW H := .agg [.lit (.int .u64 1), .lit (.int .u64 10), .lit (.int .u64 100), .lit (.int .u64 1000), .lit (.int .u64 10000), .lit (.int .u64 100000), .lit (.int .u64 1000000), .lit (.int .u64 10000000), .lit (.int .u64 100000000), .lit (.int .u64 1000000000), .lit (.int .u64 10000000000), .lit (.int .u64 100000000000), .lit (.int .u64 1000000000000), .lit (.int .u64 10000000000000), .lit (.int .u64 100000000000000), .lit (.int .u64 1000000000000000), .lit (.int .u64 10000000000000000), .lit (.int .u64 100000000000000000), .lit (.int .u64 1000000000000000000), .lit (.int .u64 10000000000000000000)]
def laid_unicode_utf8_acceptRanges {H : Type} : DataW H := .agg [.agg [.lit (.int .u8 128), .lit (.int .u8 191)], .agg [.lit (.int .u8 160), .lit (.int .u8 191)], .agg [.lit (.int .u8 128), .lit (.int .u8 159)], .agg [.lit (.int .u8 144), .lit (.int .u8 191)], .agg [.lit (.int .u8 128), .lit (.int .u8 143)], .agg [.lit (.int .u8 0), .lit (.int .u8 0)], .agg [.lit (.int .u8 0), .lit (.int .u8 0)], .agg [.lit (.int .u8 0), .lit (.int .u8 0)], .agg [.lit (.int .u8 0), .lit (.int .u8 0)], .agg [.lit (.int .u8 0), .lit (.int .u8 0)], .agg [.lit (.int .u8 0), .lit (.int .u8 0)], .agg [.lit (.int .u8 0), .lit (.int .u8 0)], .agg [.lit (.int .u8 0), .lit (.int .u8 0)], .agg [.lit (.int .u8 0), .lit (.int .u8 0)], .agg [.lit (.int .u8 0), .lit (.int .u8 0)], .agg [.lit (.int .u8 0), .lit (.int .u8 0)]]
/-- One of Go's own tables, pinned by name: the form's constant. -/
def laid_unicode_utf8_first : DataW Unit := Go.Pinned.utf8First

/-- 'nacrelaw06.CardKnowns': WHATEVER THE INPUT: true; the input reads as it did. -/
def cardKnownsSpec : ChangeSpec := { name := "cardKnowns", fn := fun _ => fun
  | [d] => { results := [.lit (.bool true)], args := [d] }
  | _ => none }
def cardKnownsRow : OpenClaim := { program := "ytjbeiclfggjbmaagreatdoor", sum := "f5286d96deb6b928cedc14beb5f7f67b7fc4048afb980e403b05b0ab31b9e3cb", func := "nacre/nacrelaw06.CardKnowns", spec := "cardKnowns", inPlace := ["internal/abi.NoEscape", "internal/bytealg.MakeNoZero"], unfollowed := true, recurses := true, named := ["internal/strconv.uint64pow10", "math/bits.deBruijn32tab", "math/bits.deBruijn64tab"], apart := false, laid := [("math/bits.deBruijn32tab", laid_math_bits_deBruijn32tab), ("math/bits.deBruijn64tab", laid_math_bits_deBruijn64tab), ("internal/strconv.uint64pow10", laid_internal_strconv_uint64pow10)] }
def CardKnownsSaid : Prop := cardKnownsRow.holds Tryz.pinned (OpenSpec.ofChange cardKnownsSpec)

/-- ITS FALSE NEIGHBOUR: 'it returns false'. Refute it at one input. -/
def cardKnownsWrong : ChangeSpec := { name := "cardKnowns", fn := fun _ => fun
  | [d] => { results := [.lit (.bool false)], args := [d] }
  | _ => none }
def CardKnownsWrongFalsely : Prop := cardKnownsRow.holds Tryz.pinned (OpenSpec.ofChange cardKnownsWrong)

/-- 'nacrelaw06.CardWrongs': WHATEVER THE INPUT: true; the input reads as it did. -/
def cardWrongsSpec : ChangeSpec := { name := "cardWrongs", fn := fun _ => fun
  | [d1, d2] => { results := [.lit (.bool true)], args := [d1, d2] }
  | _ => none }
def cardWrongsRow : OpenClaim := { program := "ytjbeiclfggjbmaagreatdoor", sum := "f5286d96deb6b928cedc14beb5f7f67b7fc4048afb980e403b05b0ab31b9e3cb", func := "nacre/nacrelaw06.CardWrongs", spec := "cardWrongs", inPlace := ["internal/abi.NoEscape", "internal/bytealg.MakeNoZero"], unfollowed := true, recurses := true, named := ["internal/strconv.uint64pow10", "math/bits.deBruijn32tab", "math/bits.deBruijn64tab"], apart := false, laid := [("math/bits.deBruijn32tab", laid_math_bits_deBruijn32tab), ("math/bits.deBruijn64tab", laid_math_bits_deBruijn64tab), ("internal/strconv.uint64pow10", laid_internal_strconv_uint64pow10)] }
def CardWrongsSaid : Prop := cardWrongsRow.holds Tryz.pinned (OpenSpec.ofChange cardWrongsSpec)

/-- ITS FALSE NEIGHBOUR: 'it returns false'. Refute it at one input. -/
def cardWrongsWrong : ChangeSpec := { name := "cardWrongs", fn := fun _ => fun
  | [d1, d2] => { results := [.lit (.bool false)], args := [d1, d2] }
  | _ => none }
def CardWrongsWrongFalsely : Prop := cardWrongsRow.holds Tryz.pinned (OpenSpec.ofChange cardWrongsWrong)

/-- 'nacrelaw06.CardDues': WHATEVER THE INPUT: true; the input reads as it did. -/
def cardDuesSpec : ChangeSpec := { name := "cardDues", fn := fun _ => fun
  | [d1, d2, d3] => { results := [.lit (.bool true)], args := [d1, d2, d3] }
  | _ => none }
def cardDuesRow : OpenClaim := { program := "ytjbeiclfggjbmaagreatdoor", sum := "f5286d96deb6b928cedc14beb5f7f67b7fc4048afb980e403b05b0ab31b9e3cb", func := "nacre/nacrelaw06.CardDues", spec := "cardDues", inPlace := ["internal/abi.NoEscape", "internal/bytealg.MakeNoZero"], unfollowed := true, recurses := true, named := ["internal/strconv.uint64pow10", "math/bits.deBruijn32tab", "math/bits.deBruijn64tab"], apart := false, laid := [("math/bits.deBruijn32tab", laid_math_bits_deBruijn32tab), ("math/bits.deBruijn64tab", laid_math_bits_deBruijn64tab), ("internal/strconv.uint64pow10", laid_internal_strconv_uint64pow10)] }
def CardDuesSaid : Prop := cardDuesRow.holds Tryz.pinned (OpenSpec.ofChange cardDuesSpec)

/-- ITS FALSE NEIGHBOUR: 'it returns false'. Refute it at one input. -/
def cardDuesWrong : ChangeSpec := { name := "cardDues", fn := fun _ => fun
  | [d1, d2, d3] => { results := [.lit (.bool false)], args := [d1, d2, d3] }
  | _ => none }
def CardDuesWrongFalsely : Prop := cardDuesRow.holds Tryz.pinned (OpenSpec.ofChange cardDuesWrong)

/-- 'nacrelaw06.CardPays': WHATEVER THE INPUT: true; the input reads as it did. -/
def cardPaysSpec : ChangeSpec := { name := "cardPays", fn := fun _ => fun
  | [d1, d2, d3] => { results := [.lit (.bool true)], args := [d1, d2, d3] }
  | _ => none }
def cardPaysRow : OpenClaim := { program := "ytjbeiclfggjbmaagreatdoor", sum := "f5286d96deb6b928cedc14beb5f7f67b7fc4048afb980e403b05b0ab31b9e3cb", func := "nacre/nacrelaw06.CardPays", spec := "cardPays", inPlace := ["internal/abi.NoEscape", "internal/bytealg.MakeNoZero"], unfollowed := true, recurses := true, named := ["internal/strconv.uint64pow10", "math/bits.deBruijn32tab", "math/bits.deBruijn64tab"], apart := false, laid := [("math/bits.deBruijn32tab", laid_math_bits_deBruijn32tab), ("math/bits.deBruijn64tab", laid_math_bits_deBruijn64tab), ("internal/strconv.uint64pow10", laid_internal_strconv_uint64pow10)] }
def CardPaysSaid : Prop := cardPaysRow.holds Tryz.pinned (OpenSpec.ofChange cardPaysSpec)

/-- ITS FALSE NEIGHBOUR: 'it returns false'. Refute it at one input. -/
def cardPaysWrong : ChangeSpec := { name := "cardPays", fn := fun _ => fun
  | [d1, d2, d3] => { results := [.lit (.bool false)], args := [d1, d2, d3] }
  | _ => none }
def CardPaysWrongFalsely : Prop := cardPaysRow.holds Tryz.pinned (OpenSpec.ofChange cardPaysWrong)

/-- 'nacrelaw06.CardPaid': WHATEVER THE INPUT: true; the input reads as it did. -/
def cardPaidSpec : ChangeSpec := { name := "cardPaid", fn := fun _ => fun
  | [d1, d2, d3, d4, d5] => { results := [.lit (.bool true)], args := [d1, d2, d3, d4, d5] }
  | _ => none }
def cardPaidRow : OpenClaim := { program := "ytjbeiclfggjbmaagreatdoor", sum := "f5286d96deb6b928cedc14beb5f7f67b7fc4048afb980e403b05b0ab31b9e3cb", func := "nacre/nacrelaw06.CardPaid", spec := "cardPaid", inPlace := ["internal/abi.NoEscape", "internal/bytealg.MakeNoZero"], unfollowed := true, recurses := true, named := ["internal/strconv.uint64pow10", "math/bits.deBruijn32tab", "math/bits.deBruijn64tab"], apart := false, laid := [("math/bits.deBruijn32tab", laid_math_bits_deBruijn32tab), ("math/bits.deBruijn64tab", laid_math_bits_deBruijn64tab), ("internal/strconv.uint64pow10", laid_internal_strconv_uint64pow10)] }
def CardPaidSaid : Prop := cardPaidRow.holds Tryz.pinned (OpenSpec.ofChange cardPaidSpec)

/-- ITS FALSE NEIGHBOUR: 'it returns false'. Refute it at one input. -/
def cardPaidWrong : ChangeSpec := { name := "cardPaid", fn := fun _ => fun
  | [d1, d2, d3, d4, d5] => { results := [.lit (.bool false)], args := [d1, d2, d3, d4, d5] }
  | _ => none }
def CardPaidWrongFalsely : Prop := cardPaidRow.holds Tryz.pinned (OpenSpec.ofChange cardPaidWrong)

/-- 'nacrelaw06.CardTours': WHATEVER THE INPUT: true; the input reads as it did. -/
def cardToursSpec : ChangeSpec := { name := "cardTours", fn := fun _ => fun
  | [d1, d2] => { results := [.lit (.bool true)], args := [d1, d2] }
  | _ => none }
def cardToursRow : OpenClaim := { program := "ytjbeiclfggjbmaagreatdoor", sum := "f5286d96deb6b928cedc14beb5f7f67b7fc4048afb980e403b05b0ab31b9e3cb", func := "nacre/nacrelaw06.CardTours", spec := "cardTours", inPlace := ["internal/abi.NoEscape", "internal/bytealg.MakeNoZero"], unfollowed := true, recurses := true, named := ["internal/strconv.uint64pow10", "math/bits.deBruijn32tab", "math/bits.deBruijn64tab"], apart := false, laid := [("math/bits.deBruijn32tab", laid_math_bits_deBruijn32tab), ("math/bits.deBruijn64tab", laid_math_bits_deBruijn64tab), ("internal/strconv.uint64pow10", laid_internal_strconv_uint64pow10)] }
def CardToursSaid : Prop := cardToursRow.holds Tryz.pinned (OpenSpec.ofChange cardToursSpec)

/-- ITS FALSE NEIGHBOUR: 'it returns false'. Refute it at one input. -/
def cardToursWrong : ChangeSpec := { name := "cardTours", fn := fun _ => fun
  | [d1, d2] => { results := [.lit (.bool false)], args := [d1, d2] }
  | _ => none }
def CardToursWrongFalsely : Prop := cardToursRow.holds Tryz.pinned (OpenSpec.ofChange cardToursWrong)

/-- 'nacrelaw06.CardShortest': WHATEVER THE INPUT: true; the input reads as it did. -/
def cardShortestSpec : ChangeSpec := { name := "cardShortest", fn := fun _ => fun
  | [d1, d2] => { results := [.lit (.bool true)], args := [d1, d2] }
  | _ => none }
def cardShortestRow : OpenClaim := { program := "ytjbeiclfggjbmaagreatdoor", sum := "f5286d96deb6b928cedc14beb5f7f67b7fc4048afb980e403b05b0ab31b9e3cb", func := "nacre/nacrelaw06.CardShortest", spec := "cardShortest", inPlace := ["internal/abi.NoEscape", "internal/bytealg.MakeNoZero"], unfollowed := true, recurses := true, named := ["internal/strconv.uint64pow10", "math/bits.deBruijn32tab", "math/bits.deBruijn64tab"], apart := false, laid := [("math/bits.deBruijn32tab", laid_math_bits_deBruijn32tab), ("math/bits.deBruijn64tab", laid_math_bits_deBruijn64tab), ("internal/strconv.uint64pow10", laid_internal_strconv_uint64pow10)] }
def CardShortestSaid : Prop := cardShortestRow.holds Tryz.pinned (OpenSpec.ofChange cardShortestSpec)

/-- ITS FALSE NEIGHBOUR: 'it returns false'. Refute it at one input. -/
def cardShortestWrong : ChangeSpec := { name := "cardShortest", fn := fun _ => fun
  | [d1, d2] => { results := [.lit (.bool false)], args := [d1, d2] }
  | _ => none }
def CardShortestWrongFalsely : Prop := cardShortestRow.holds Tryz.pinned (OpenSpec.ofChange cardShortestWrong)

/-- 'nacrelaw06.CardPlans': WHATEVER THE INPUT: true; the input reads as it did. -/
def cardPlansSpec : ChangeSpec := { name := "cardPlans", fn := fun _ => fun
  | [d] => { results := [.lit (.bool true)], args := [d] }
  | _ => none }
def cardPlansRow : OpenClaim := { program := "ytjbeiclfggjbmaagreatdoor", sum := "f5286d96deb6b928cedc14beb5f7f67b7fc4048afb980e403b05b0ab31b9e3cb", func := "nacre/nacrelaw06.CardPlans", spec := "cardPlans", inPlace := ["internal/abi.NoEscape", "internal/bytealg.MakeNoZero"], unfollowed := true, recurses := true, named := ["internal/strconv.uint64pow10", "math/bits.deBruijn32tab", "math/bits.deBruijn64tab"], apart := false, laid := [("math/bits.deBruijn32tab", laid_math_bits_deBruijn32tab), ("math/bits.deBruijn64tab", laid_math_bits_deBruijn64tab), ("internal/strconv.uint64pow10", laid_internal_strconv_uint64pow10)] }
def CardPlansSaid : Prop := cardPlansRow.holds Tryz.pinned (OpenSpec.ofChange cardPlansSpec)

/-- ITS FALSE NEIGHBOUR: 'it returns false'. Refute it at one input. -/
def cardPlansWrong : ChangeSpec := { name := "cardPlans", fn := fun _ => fun
  | [d] => { results := [.lit (.bool false)], args := [d] }
  | _ => none }
def CardPlansWrongFalsely : Prop := cardPlansRow.holds Tryz.pinned (OpenSpec.ofChange cardPlansWrong)

/-- 'nacrelaw06.CardFills': WHATEVER THE INPUT: true; the input reads as it did. -/
def cardFillsSpec : ChangeSpec := { name := "cardFills", fn := fun _ => fun
  | [d1, d2] => { results := [.lit (.bool true)], args := [d1, d2] }
  | _ => none }
def cardFillsRow : OpenClaim := { program := "ytjbeiclfggjbmaagreatdoor", sum := "f5286d96deb6b928cedc14beb5f7f67b7fc4048afb980e403b05b0ab31b9e3cb", func := "nacre/nacrelaw06.CardFills", spec := "cardFills", inPlace := ["internal/abi.NoEscape", "internal/bytealg.MakeNoZero"], unfollowed := true, recurses := true, named := ["internal/strconv.uint64pow10", "math/bits.deBruijn32tab", "math/bits.deBruijn64tab"], apart := false, laid := [("math/bits.deBruijn32tab", laid_math_bits_deBruijn32tab), ("math/bits.deBruijn64tab", laid_math_bits_deBruijn64tab), ("internal/strconv.uint64pow10", laid_internal_strconv_uint64pow10)] }
def CardFillsSaid : Prop := cardFillsRow.holds Tryz.pinned (OpenSpec.ofChange cardFillsSpec)

/-- ITS FALSE NEIGHBOUR: 'it returns false'. Refute it at one input. -/
def cardFillsWrong : ChangeSpec := { name := "cardFills", fn := fun _ => fun
  | [d1, d2] => { results := [.lit (.bool false)], args := [d1, d2] }
  | _ => none }
def CardFillsWrongFalsely : Prop := cardFillsRow.holds Tryz.pinned (OpenSpec.ofChange cardFillsWrong)

/-- 'nacrelaw06.CardFilled': WHATEVER THE INPUT: true; the input reads as it did. -/
def cardFilledSpec : ChangeSpec := { name := "cardFilled", fn := fun _ => fun
  | [d1, d2, d3] => { results := [.lit (.bool true)], args := [d1, d2, d3] }
  | _ => none }
def cardFilledRow : OpenClaim := { program := "ytjbeiclfggjbmaagreatdoor", sum := "f5286d96deb6b928cedc14beb5f7f67b7fc4048afb980e403b05b0ab31b9e3cb", func := "nacre/nacrelaw06.CardFilled", spec := "cardFilled", inPlace := ["internal/abi.NoEscape", "internal/bytealg.MakeNoZero"], unfollowed := true, recurses := true, named := ["internal/strconv.uint64pow10", "math/bits.deBruijn32tab", "math/bits.deBruijn64tab"], apart := false, laid := [("math/bits.deBruijn32tab", laid_math_bits_deBruijn32tab), ("math/bits.deBruijn64tab", laid_math_bits_deBruijn64tab), ("internal/strconv.uint64pow10", laid_internal_strconv_uint64pow10)] }
def CardFilledSaid : Prop := cardFilledRow.holds Tryz.pinned (OpenSpec.ofChange cardFilledSpec)

/-- ITS FALSE NEIGHBOUR: 'it returns false'. Refute it at one input. -/
def cardFilledWrong : ChangeSpec := { name := "cardFilled", fn := fun _ => fun
  | [d1, d2, d3] => { results := [.lit (.bool false)], args := [d1, d2, d3] }
  | _ => none }
def CardFilledWrongFalsely : Prop := cardFilledRow.holds Tryz.pinned (OpenSpec.ofChange cardFilledWrong)

/-- 'nacrelaw06.CardMore': WHATEVER THE INPUT: true; the input reads as it did. -/
def cardMoreSpec : ChangeSpec := { name := "cardMore", fn := fun _ => fun
  | [d1, d2, d3] => { results := [.lit (.bool true)], args := [d1, d2, d3] }
  | _ => none }
def cardMoreRow : OpenClaim := { program := "ytjbeiclfggjbmaagreatdoor", sum := "f5286d96deb6b928cedc14beb5f7f67b7fc4048afb980e403b05b0ab31b9e3cb", func := "nacre/nacrelaw06.CardMore", spec := "cardMore", inPlace := ["internal/abi.NoEscape", "internal/bytealg.MakeNoZero"], unfollowed := true, recurses := true, named := ["internal/strconv.uint64pow10", "math/bits.deBruijn32tab", "math/bits.deBruijn64tab"], apart := false, laid := [("math/bits.deBruijn32tab", laid_math_bits_deBruijn32tab), ("math/bits.deBruijn64tab", laid_math_bits_deBruijn64tab), ("internal/strconv.uint64pow10", laid_internal_strconv_uint64pow10)] }
def CardMoreSaid : Prop := cardMoreRow.holds Tryz.pinned (OpenSpec.ofChange cardMoreSpec)

/-- ITS FALSE NEIGHBOUR: 'it returns false'. Refute it at one input. -/
def cardMoreWrong : ChangeSpec := { name := "cardMore", fn := fun _ => fun
  | [d1, d2, d3] => { results := [.lit (.bool false)], args := [d1, d2, d3] }
  | _ => none }
def CardMoreWrongFalsely : Prop := cardMoreRow.holds Tryz.pinned (OpenSpec.ofChange cardMoreWrong)

/-- 'nacrelaw06.CardAgrees': WHATEVER THE INPUT: true; the input reads as it did. -/
def cardAgreesSpec : ChangeSpec := { name := "cardAgrees", fn := fun _ => fun
  | [d] => { results := [.lit (.bool true)], args := [d] }
  | _ => none }
def cardAgreesRow : OpenClaim := { program := "ytjbeiclfggjbmaagreatdoor", sum := "f5286d96deb6b928cedc14beb5f7f67b7fc4048afb980e403b05b0ab31b9e3cb", func := "nacre/nacrelaw06.CardAgrees", spec := "cardAgrees", inPlace := ["internal/abi.NoEscape", "internal/bytealg.MakeNoZero"], unfollowed := true, recurses := true, named := ["internal/strconv.uint64pow10", "math/bits.deBruijn32tab", "math/bits.deBruijn64tab"], apart := false, laid := [("math/bits.deBruijn32tab", laid_math_bits_deBruijn32tab), ("math/bits.deBruijn64tab", laid_math_bits_deBruijn64tab), ("internal/strconv.uint64pow10", laid_internal_strconv_uint64pow10)] }
def CardAgreesSaid : Prop := cardAgreesRow.holds Tryz.pinned (OpenSpec.ofChange cardAgreesSpec)

/-- ITS FALSE NEIGHBOUR: 'it returns false'. Refute it at one input. -/
def cardAgreesWrong : ChangeSpec := { name := "cardAgrees", fn := fun _ => fun
  | [d] => { results := [.lit (.bool false)], args := [d] }
  | _ => none }
def CardAgreesWrongFalsely : Prop := cardAgreesRow.holds Tryz.pinned (OpenSpec.ofChange cardAgreesWrong)

/-- 'nacrelaw06.CardNamed': WHATEVER THE INPUT: true; the input reads as it did. -/
def cardNamedSpec : ChangeSpec := { name := "cardNamed", fn := fun _ => fun
  | [d1, d2, d3] => { results := [.lit (.bool true)], args := [d1, d2, d3] }
  | _ => none }
def cardNamedRow : OpenClaim := { program := "ytjbeiclfggjbmaagreatdoor", sum := "f5286d96deb6b928cedc14beb5f7f67b7fc4048afb980e403b05b0ab31b9e3cb", func := "nacre/nacrelaw06.CardNamed", spec := "cardNamed", inPlace := ["internal/abi.NoEscape", "internal/bytealg.MakeNoZero"], unfollowed := true, recurses := true, named := ["internal/strconv.uint64pow10", "math/bits.deBruijn32tab", "math/bits.deBruijn64tab"], apart := false, laid := [("math/bits.deBruijn32tab", laid_math_bits_deBruijn32tab), ("math/bits.deBruijn64tab", laid_math_bits_deBruijn64tab), ("internal/strconv.uint64pow10", laid_internal_strconv_uint64pow10)] }
def CardNamedSaid : Prop := cardNamedRow.holds Tryz.pinned (OpenSpec.ofChange cardNamedSpec)

/-- ITS FALSE NEIGHBOUR: 'it returns false'. Refute it at one input. -/
def cardNamedWrong : ChangeSpec := { name := "cardNamed", fn := fun _ => fun
  | [d1, d2, d3] => { results := [.lit (.bool false)], args := [d1, d2, d3] }
  | _ => none }
def CardNamedWrongFalsely : Prop := cardNamedRow.holds Tryz.pinned (OpenSpec.ofChange cardNamedWrong)

/-- 'nacrelaw06.CardRuns': WHATEVER THE INPUT: true; the input reads as it did. -/
def cardRunsSpec : ChangeSpec := { name := "cardRuns", fn := fun _ => fun
  | [d1, d2] => { results := [.lit (.bool true)], args := [d1, d2] }
  | _ => none }
def cardRunsRow : OpenClaim := { program := "ytjbeiclfggjbmaagreatdoor", sum := "f5286d96deb6b928cedc14beb5f7f67b7fc4048afb980e403b05b0ab31b9e3cb", func := "nacre/nacrelaw06.CardRuns", spec := "cardRuns", inPlace := ["internal/abi.NoEscape", "internal/bytealg.MakeNoZero"], unfollowed := true, recurses := true, named := ["internal/strconv.uint64pow10", "math/bits.deBruijn32tab", "math/bits.deBruijn64tab"], apart := false, laid := [("math/bits.deBruijn32tab", laid_math_bits_deBruijn32tab), ("math/bits.deBruijn64tab", laid_math_bits_deBruijn64tab), ("internal/strconv.uint64pow10", laid_internal_strconv_uint64pow10)] }
def CardRunsSaid : Prop := cardRunsRow.holds Tryz.pinned (OpenSpec.ofChange cardRunsSpec)

/-- ITS FALSE NEIGHBOUR: 'it returns false'. Refute it at one input. -/
def cardRunsWrong : ChangeSpec := { name := "cardRuns", fn := fun _ => fun
  | [d1, d2] => { results := [.lit (.bool false)], args := [d1, d2] }
  | _ => none }
def CardRunsWrongFalsely : Prop := cardRunsRow.holds Tryz.pinned (OpenSpec.ofChange cardRunsWrong)

/-- 'nacrelaw06.CardKeeps': WHATEVER THE INPUT: true; the input reads as it did. -/
def cardKeepsSpec : ChangeSpec := { name := "cardKeeps", fn := fun _ => fun
  | [d1, d2] => { results := [.lit (.bool true)], args := [d1, d2] }
  | _ => none }
def cardKeepsRow : OpenClaim := { program := "ytjbeiclfggjbmaagreatdoor", sum := "f5286d96deb6b928cedc14beb5f7f67b7fc4048afb980e403b05b0ab31b9e3cb", func := "nacre/nacrelaw06.CardKeeps", spec := "cardKeeps", inPlace := ["internal/abi.NoEscape", "internal/bytealg.MakeNoZero"], unfollowed := true, recurses := true, named := ["internal/strconv.uint64pow10", "math/bits.deBruijn32tab", "math/bits.deBruijn64tab"], apart := false, laid := [("math/bits.deBruijn32tab", laid_math_bits_deBruijn32tab), ("math/bits.deBruijn64tab", laid_math_bits_deBruijn64tab), ("internal/strconv.uint64pow10", laid_internal_strconv_uint64pow10)] }
def CardKeepsSaid : Prop := cardKeepsRow.holds Tryz.pinned (OpenSpec.ofChange cardKeepsSpec)

/-- ITS FALSE NEIGHBOUR: 'it returns false'. Refute it at one input. -/
def cardKeepsWrong : ChangeSpec := { name := "cardKeeps", fn := fun _ => fun
  | [d1, d2] => { results := [.lit (.bool false)], args := [d1, d2] }
  | _ => none }
def CardKeepsWrongFalsely : Prop := cardKeepsRow.holds Tryz.pinned (OpenSpec.ofChange cardKeepsWrong)

/-- 'nacrelaw06.CardFewest': WHATEVER THE INPUT: true; the input reads as it did. -/
def cardFewestSpec : ChangeSpec := { name := "cardFewest", fn := fun _ => fun
  | [d1, d2] => { results := [.lit (.bool true)], args := [d1, d2] }
  | _ => none }
def cardFewestRow : OpenClaim := { program := "ytjbeiclfggjbmaagreatdoor", sum := "f5286d96deb6b928cedc14beb5f7f67b7fc4048afb980e403b05b0ab31b9e3cb", func := "nacre/nacrelaw06.CardFewest", spec := "cardFewest", inPlace := ["internal/abi.NoEscape", "internal/bytealg.MakeNoZero"], unfollowed := true, recurses := true, named := ["internal/strconv.uint64pow10", "math/bits.deBruijn32tab", "math/bits.deBruijn64tab"], apart := false, laid := [("math/bits.deBruijn32tab", laid_math_bits_deBruijn32tab), ("math/bits.deBruijn64tab", laid_math_bits_deBruijn64tab), ("internal/strconv.uint64pow10", laid_internal_strconv_uint64pow10)] }
def CardFewestSaid : Prop := cardFewestRow.holds Tryz.pinned (OpenSpec.ofChange cardFewestSpec)

/-- ITS FALSE NEIGHBOUR: 'it returns false'. Refute it at one input. -/
def cardFewestWrong : ChangeSpec := { name := "cardFewest", fn := fun _ => fun
  | [d1, d2] => { results := [.lit (.bool false)], args := [d1, d2] }
  | _ => none }
def CardFewestWrongFalsely : Prop := cardFewestRow.holds Tryz.pinned (OpenSpec.ofChange cardFewestWrong)

/-- 'nacrelaw06.CardTrue': WHATEVER THE INPUT: true; the input reads as it did. -/
def cardTrueSpec : ChangeSpec := { name := "cardTrue", fn := fun _ => fun
  | [d1, d2] => { results := [.lit (.bool true)], args := [d1, d2] }
  | _ => none }
def cardTrueRow : OpenClaim := { program := "ytjbeiclfggjbmaagreatdoor", sum := "f5286d96deb6b928cedc14beb5f7f67b7fc4048afb980e403b05b0ab31b9e3cb", func := "nacre/nacrelaw06.CardTrue", spec := "cardTrue", inPlace := ["internal/abi.NoEscape", "internal/bytealg.MakeNoZero"], unfollowed := true, recurses := true, named := ["internal/strconv.uint64pow10", "math/bits.deBruijn32tab", "math/bits.deBruijn64tab"], apart := false, laid := [("math/bits.deBruijn32tab", laid_math_bits_deBruijn32tab), ("math/bits.deBruijn64tab", laid_math_bits_deBruijn64tab), ("internal/strconv.uint64pow10", laid_internal_strconv_uint64pow10)] }
def CardTrueSaid : Prop := cardTrueRow.holds Tryz.pinned (OpenSpec.ofChange cardTrueSpec)

/-- ITS FALSE NEIGHBOUR: 'it returns false'. Refute it at one input. -/
def cardTrueWrong : ChangeSpec := { name := "cardTrue", fn := fun _ => fun
  | [d1, d2] => { results := [.lit (.bool false)], args := [d1, d2] }
  | _ => none }
def CardTrueWrongFalsely : Prop := cardTrueRow.holds Tryz.pinned (OpenSpec.ofChange cardTrueWrong)

/-- 'nacrelaw06.CardEnds': WHATEVER THE INPUT: true; the input reads as it did. -/
def cardEndsSpec : ChangeSpec := { name := "cardEnds", fn := fun _ => fun
  | [d] => { results := [.lit (.bool true)], args := [d] }
  | _ => none }
def cardEndsRow : OpenClaim := { program := "ytjbeiclfggjbmaagreatdoor", sum := "f5286d96deb6b928cedc14beb5f7f67b7fc4048afb980e403b05b0ab31b9e3cb", func := "nacre/nacrelaw06.CardEnds", spec := "cardEnds", inPlace := ["internal/abi.NoEscape", "internal/bytealg.MakeNoZero"], unfollowed := true, recurses := true, named := ["internal/strconv.uint64pow10", "math/bits.deBruijn32tab", "math/bits.deBruijn64tab"], apart := false, laid := [("math/bits.deBruijn32tab", laid_math_bits_deBruijn32tab), ("math/bits.deBruijn64tab", laid_math_bits_deBruijn64tab), ("internal/strconv.uint64pow10", laid_internal_strconv_uint64pow10)] }
def CardEndsSaid : Prop := cardEndsRow.holds Tryz.pinned (OpenSpec.ofChange cardEndsSpec)

/-- ITS FALSE NEIGHBOUR: 'it returns false'. Refute it at one input. -/
def cardEndsWrong : ChangeSpec := { name := "cardEnds", fn := fun _ => fun
  | [d] => { results := [.lit (.bool false)], args := [d] }
  | _ => none }
def CardEndsWrongFalsely : Prop := cardEndsRow.holds Tryz.pinned (OpenSpec.ofChange cardEndsWrong)

/-- 'nacrelaw06.CardPrints': WHATEVER THE INPUT: true; the input reads as it did. -/
def cardPrintsSpec : ChangeSpec := { name := "cardPrints", fn := fun _ => fun
  | [d] => { results := [.lit (.bool true)], args := [d] }
  | _ => none }
def cardPrintsRow : OpenClaim := { program := "ytjbeiclfggjbmaagreatdoor", sum := "f5286d96deb6b928cedc14beb5f7f67b7fc4048afb980e403b05b0ab31b9e3cb", func := "nacre/nacrelaw06.CardPrints", spec := "cardPrints", inPlace := ["internal/abi.NoEscape", "internal/bytealg.MakeNoZero", "internal/bytealg.CountString", "internal/bytealg.IndexByteString", "internal/bytealg.IndexString"], unfollowed := true, recurses := true, named := ["internal/strconv.uint64pow10", "math/bits.deBruijn32tab", "math/bits.deBruijn64tab", "unicode/utf8.first", "unicode/utf8.acceptRanges", "internal/bytealg.MaxLen"], apart := false, laid := [("math/bits.deBruijn32tab", laid_math_bits_deBruijn32tab), ("math/bits.deBruijn64tab", laid_math_bits_deBruijn64tab), ("internal/strconv.uint64pow10", laid_internal_strconv_uint64pow10), ("unicode/utf8.acceptRanges", laid_unicode_utf8_acceptRanges), ("unicode/utf8.first", laid_unicode_utf8_first)] }
def CardPrintsSaid : Prop := cardPrintsRow.holds Tryz.pinned (OpenSpec.ofChange cardPrintsSpec)

/-- ITS FALSE NEIGHBOUR: 'it returns false'. Refute it at one input. -/
def cardPrintsWrong : ChangeSpec := { name := "cardPrints", fn := fun _ => fun
  | [d] => { results := [.lit (.bool false)], args := [d] }
  | _ => none }
def CardPrintsWrongFalsely : Prop := cardPrintsRow.holds Tryz.pinned (OpenSpec.ofChange cardPrintsWrong)

/-- 'nacrelaw06.CardReads': WHATEVER THE INPUT: true; the input reads as it did. -/
def cardReadsSpec : ChangeSpec := { name := "cardReads", fn := fun _ => fun
  | [d] => { results := [.lit (.bool true)], args := [d] }
  | _ => none }
def cardReadsRow : OpenClaim := { program := "ytjbeiclfggjbmaagreatdoor", sum := "f5286d96deb6b928cedc14beb5f7f67b7fc4048afb980e403b05b0ab31b9e3cb", func := "nacre/nacrelaw06.CardReads", spec := "cardReads", inPlace := ["internal/abi.NoEscape", "internal/bytealg.MakeNoZero", "internal/bytealg.CountString", "internal/bytealg.IndexByteString", "internal/bytealg.IndexString"], unfollowed := true, recurses := true, named := ["internal/strconv.uint64pow10", "math/bits.deBruijn32tab", "math/bits.deBruijn64tab", "unicode/utf8.first", "unicode/utf8.acceptRanges", "internal/bytealg.MaxLen"], apart := false, laid := [("math/bits.deBruijn32tab", laid_math_bits_deBruijn32tab), ("math/bits.deBruijn64tab", laid_math_bits_deBruijn64tab), ("internal/strconv.uint64pow10", laid_internal_strconv_uint64pow10), ("unicode/utf8.acceptRanges", laid_unicode_utf8_acceptRanges), ("unicode/utf8.first", laid_unicode_utf8_first)] }
def CardReadsSaid : Prop := cardReadsRow.holds Tryz.pinned (OpenSpec.ofChange cardReadsSpec)

/-- ITS FALSE NEIGHBOUR: 'it returns false'. Refute it at one input. -/
def cardReadsWrong : ChangeSpec := { name := "cardReads", fn := fun _ => fun
  | [d] => { results := [.lit (.bool false)], args := [d] }
  | _ => none }
def CardReadsWrongFalsely : Prop := cardReadsRow.holds Tryz.pinned (OpenSpec.ofChange cardReadsWrong)

/-- 'nacrelaw06.CardSpoilt': WHATEVER THE INPUT: true; the input reads as it did. -/
def cardSpoiltSpec : ChangeSpec := { name := "cardSpoilt", fn := fun _ => fun
  | [d1, d2, d3] => { results := [.lit (.bool true)], args := [d1, d2, d3] }
  | _ => none }
def cardSpoiltRow : OpenClaim := { program := "ytjbeiclfggjbmaagreatdoor", sum := "f5286d96deb6b928cedc14beb5f7f67b7fc4048afb980e403b05b0ab31b9e3cb", func := "nacre/nacrelaw06.CardSpoilt", spec := "cardSpoilt", inPlace := ["internal/abi.NoEscape", "internal/bytealg.MakeNoZero", "internal/bytealg.CountString", "internal/bytealg.IndexByteString", "internal/bytealg.IndexString"], unfollowed := true, recurses := true, named := ["internal/strconv.uint64pow10", "math/bits.deBruijn32tab", "math/bits.deBruijn64tab", "unicode/utf8.first", "unicode/utf8.acceptRanges", "internal/bytealg.MaxLen"], apart := false, laid := [("math/bits.deBruijn32tab", laid_math_bits_deBruijn32tab), ("math/bits.deBruijn64tab", laid_math_bits_deBruijn64tab), ("internal/strconv.uint64pow10", laid_internal_strconv_uint64pow10), ("unicode/utf8.acceptRanges", laid_unicode_utf8_acceptRanges), ("unicode/utf8.first", laid_unicode_utf8_first)] }
def CardSpoiltSaid : Prop := cardSpoiltRow.holds Tryz.pinned (OpenSpec.ofChange cardSpoiltSpec)

/-- ITS FALSE NEIGHBOUR: 'it returns false'. Refute it at one input. -/
def cardSpoiltWrong : ChangeSpec := { name := "cardSpoilt", fn := fun _ => fun
  | [d1, d2, d3] => { results := [.lit (.bool false)], args := [d1, d2, d3] }
  | _ => none }
def CardSpoiltWrongFalsely : Prop := cardSpoiltRow.holds Tryz.pinned (OpenSpec.ofChange cardSpoiltWrong)

/- THE SECOND FORM. 'bulk': how many values and letters a reading holds, each counted each time it is reached (what is shared counts as often as it is met; a slice's spare places count too). A statement '..UptoSaid' is the law's where the arguments, and the package variables that the reading takes, are together of bulk at most 1048576: NARROWER than '..Said'. Prove '..Said' where nothing that the law and all that it calls make is longer than what came in: it says more and counts as full. Else prove '..UptoSaid'. A law counts once. -/
mutual
def uptoBulk {H : Type} : DataW H → Nat
  | .lit (.string bytes) => bytes.length + 1
  | .lit _ => 1
  | .nil => 1
  | .ptr d => uptoBulk d + 1
  | .slice elems spare => uptoBulkAll elems + uptoBulkAll spare + 1
  | .agg parts => uptoBulkAll parts + 1
  | .iface _ d => uptoBulk d + 1
  | .map entries => uptoBulkEntries entries + 1
  | .held _ => 1
def uptoBulkAll {H : Type} : List (DataW H) → Nat
  | [] => 0
  | d :: r => uptoBulk d + uptoBulkAll r
def uptoBulkEntries {H : Type} : List (Lit × DataW H) → Nat
  | [] => 0
  | x :: r => uptoBulkEntry x + uptoBulkEntries r
def uptoBulkEntry {H : Type} : Lit × DataW H → Nat
  | (.string bytes, d) => bytes.length + uptoBulk d + 1
  | (_, d) => uptoBulk d + 1
 end
def uptoSmall : (H : Type) → List (DataW H) → Bool := fun _ ds => decide (uptoBulkAll ds ≤ 1048576)
def OpenSpec.upto (s : _root_.Go.ChangeSpec) : _root_.Go.OpenSpec := { _root_.Go.OpenSpec.ofChange s with cond := some uptoSmall }

/-- 'nacrelaw06.CardKnowns', WHERE WHAT IT READS IS OF BULK AT MOST 1048576: true; the input reads as it did. -/
def cardKnownsUptoRow : OpenClaim := { program := "ytjbeiclfggjbmaagreatdoor", sum := "f5286d96deb6b928cedc14beb5f7f67b7fc4048afb980e403b05b0ab31b9e3cb", func := "nacre/nacrelaw06.CardKnowns", spec := "cardKnowns", inPlace := ["internal/abi.NoEscape", "internal/bytealg.MakeNoZero"], unfollowed := true, recurses := true, named := ["internal/strconv.uint64pow10", "math/bits.deBruijn32tab", "math/bits.deBruijn64tab"], apart := false, laid := [("math/bits.deBruijn32tab", laid_math_bits_deBruijn32tab), ("math/bits.deBruijn64tab", laid_math_bits_deBruijn64tab), ("internal/strconv.uint64pow10", laid_internal_strconv_uint64pow10)], narrowed := true }
def CardKnownsUptoSaid : Prop := cardKnownsUptoRow.holds Tryz.pinned (OpenSpec.upto cardKnownsSpec)

/-- 'nacrelaw06.CardWrongs', WHERE WHAT IT READS IS OF BULK AT MOST 1048576: true; the input reads as it did. -/
def cardWrongsUptoRow : OpenClaim := { program := "ytjbeiclfggjbmaagreatdoor", sum := "f5286d96deb6b928cedc14beb5f7f67b7fc4048afb980e403b05b0ab31b9e3cb", func := "nacre/nacrelaw06.CardWrongs", spec := "cardWrongs", inPlace := ["internal/abi.NoEscape", "internal/bytealg.MakeNoZero"], unfollowed := true, recurses := true, named := ["internal/strconv.uint64pow10", "math/bits.deBruijn32tab", "math/bits.deBruijn64tab"], apart := false, laid := [("math/bits.deBruijn32tab", laid_math_bits_deBruijn32tab), ("math/bits.deBruijn64tab", laid_math_bits_deBruijn64tab), ("internal/strconv.uint64pow10", laid_internal_strconv_uint64pow10)], narrowed := true }
def CardWrongsUptoSaid : Prop := cardWrongsUptoRow.holds Tryz.pinned (OpenSpec.upto cardWrongsSpec)

/-- 'nacrelaw06.CardDues', WHERE WHAT IT READS IS OF BULK AT MOST 1048576: true; the input reads as it did. -/
def cardDuesUptoRow : OpenClaim := { program := "ytjbeiclfggjbmaagreatdoor", sum := "f5286d96deb6b928cedc14beb5f7f67b7fc4048afb980e403b05b0ab31b9e3cb", func := "nacre/nacrelaw06.CardDues", spec := "cardDues", inPlace := ["internal/abi.NoEscape", "internal/bytealg.MakeNoZero"], unfollowed := true, recurses := true, named := ["internal/strconv.uint64pow10", "math/bits.deBruijn32tab", "math/bits.deBruijn64tab"], apart := false, laid := [("math/bits.deBruijn32tab", laid_math_bits_deBruijn32tab), ("math/bits.deBruijn64tab", laid_math_bits_deBruijn64tab), ("internal/strconv.uint64pow10", laid_internal_strconv_uint64pow10)], narrowed := true }
def CardDuesUptoSaid : Prop := cardDuesUptoRow.holds Tryz.pinned (OpenSpec.upto cardDuesSpec)

/-- 'nacrelaw06.CardPays', WHERE WHAT IT READS IS OF BULK AT MOST 1048576: true; the input reads as it did. -/
def cardPaysUptoRow : OpenClaim := { program := "ytjbeiclfggjbmaagreatdoor", sum := "f5286d96deb6b928cedc14beb5f7f67b7fc4048afb980e403b05b0ab31b9e3cb", func := "nacre/nacrelaw06.CardPays", spec := "cardPays", inPlace := ["internal/abi.NoEscape", "internal/bytealg.MakeNoZero"], unfollowed := true, recurses := true, named := ["internal/strconv.uint64pow10", "math/bits.deBruijn32tab", "math/bits.deBruijn64tab"], apart := false, laid := [("math/bits.deBruijn32tab", laid_math_bits_deBruijn32tab), ("math/bits.deBruijn64tab", laid_math_bits_deBruijn64tab), ("internal/strconv.uint64pow10", laid_internal_strconv_uint64pow10)], narrowed := true }
def CardPaysUptoSaid : Prop := cardPaysUptoRow.holds Tryz.pinned (OpenSpec.upto cardPaysSpec)

/-- 'nacrelaw06.CardPaid', WHERE WHAT IT READS IS OF BULK AT MOST 1048576: true; the input reads as it did. -/
def cardPaidUptoRow : OpenClaim := { program := "ytjbeiclfggjbmaagreatdoor", sum := "f5286d96deb6b928cedc14beb5f7f67b7fc4048afb980e403b05b0ab31b9e3cb", func := "nacre/nacrelaw06.CardPaid", spec := "cardPaid", inPlace := ["internal/abi.NoEscape", "internal/bytealg.MakeNoZero"], unfollowed := true, recurses := true, named := ["internal/strconv.uint64pow10", "math/bits.deBruijn32tab", "math/bits.deBruijn64tab"], apart := false, laid := [("math/bits.deBruijn32tab", laid_math_bits_deBruijn32tab), ("math/bits.deBruijn64tab", laid_math_bits_deBruijn64tab), ("internal/strconv.uint64pow10", laid_internal_strconv_uint64pow10)], narrowed := true }
def CardPaidUptoSaid : Prop := cardPaidUptoRow.holds Tryz.pinned (OpenSpec.upto cardPaidSpec)

/-- 'nacrelaw06.CardTours', WHERE WHAT IT READS IS OF BULK AT MOST 1048576: true; the input reads as it did. -/
def cardToursUptoRow : OpenClaim := { program := "ytjbeiclfggjbmaagreatdoor", sum := "f5286d96deb6b928cedc14beb5f7f67b7fc4048afb980e403b05b0ab31b9e3cb", func := "nacre/nacrelaw06.CardTours", spec := "cardTours", inPlace := ["internal/abi.NoEscape", "internal/bytealg.MakeNoZero"], unfollowed := true, recurses := true, named := ["internal/strconv.uint64pow10", "math/bits.deBruijn32tab", "math/bits.deBruijn64tab"], apart := false, laid := [("math/bits.deBruijn32tab", laid_math_bits_deBruijn32tab), ("math/bits.deBruijn64tab", laid_math_bits_deBruijn64tab), ("internal/strconv.uint64pow10", laid_internal_strconv_uint64pow10)], narrowed := true }
def CardToursUptoSaid : Prop := cardToursUptoRow.holds Tryz.pinned (OpenSpec.upto cardToursSpec)

/-- 'nacrelaw06.CardShortest', WHERE WHAT IT READS IS OF BULK AT MOST 1048576: true; the input reads as it did. -/
def cardShortestUptoRow : OpenClaim := { program := "ytjbeiclfggjbmaagreatdoor", sum := "f5286d96deb6b928cedc14beb5f7f67b7fc4048afb980e403b05b0ab31b9e3cb", func := "nacre/nacrelaw06.CardShortest", spec := "cardShortest", inPlace := ["internal/abi.NoEscape", "internal/bytealg.MakeNoZero"], unfollowed := true, recurses := true, named := ["internal/strconv.uint64pow10", "math/bits.deBruijn32tab", "math/bits.deBruijn64tab"], apart := false, laid := [("math/bits.deBruijn32tab", laid_math_bits_deBruijn32tab), ("math/bits.deBruijn64tab", laid_math_bits_deBruijn64tab), ("internal/strconv.uint64pow10", laid_internal_strconv_uint64pow10)], narrowed := true }
def CardShortestUptoSaid : Prop := cardShortestUptoRow.holds Tryz.pinned (OpenSpec.upto cardShortestSpec)

/-- 'nacrelaw06.CardPlans', WHERE WHAT IT READS IS OF BULK AT MOST 1048576: true; the input reads as it did. -/
def cardPlansUptoRow : OpenClaim := { program := "ytjbeiclfggjbmaagreatdoor", sum := "f5286d96deb6b928cedc14beb5f7f67b7fc4048afb980e403b05b0ab31b9e3cb", func := "nacre/nacrelaw06.CardPlans", spec := "cardPlans", inPlace := ["internal/abi.NoEscape", "internal/bytealg.MakeNoZero"], unfollowed := true, recurses := true, named := ["internal/strconv.uint64pow10", "math/bits.deBruijn32tab", "math/bits.deBruijn64tab"], apart := false, laid := [("math/bits.deBruijn32tab", laid_math_bits_deBruijn32tab), ("math/bits.deBruijn64tab", laid_math_bits_deBruijn64tab), ("internal/strconv.uint64pow10", laid_internal_strconv_uint64pow10)], narrowed := true }
def CardPlansUptoSaid : Prop := cardPlansUptoRow.holds Tryz.pinned (OpenSpec.upto cardPlansSpec)

/-- 'nacrelaw06.CardFills', WHERE WHAT IT READS IS OF BULK AT MOST 1048576: true; the input reads as it did. -/
def cardFillsUptoRow : OpenClaim := { program := "ytjbeiclfggjbmaagreatdoor", sum := "f5286d96deb6b928cedc14beb5f7f67b7fc4048afb980e403b05b0ab31b9e3cb", func := "nacre/nacrelaw06.CardFills", spec := "cardFills", inPlace := ["internal/abi.NoEscape", "internal/bytealg.MakeNoZero"], unfollowed := true, recurses := true, named := ["internal/strconv.uint64pow10", "math/bits.deBruijn32tab", "math/bits.deBruijn64tab"], apart := false, laid := [("math/bits.deBruijn32tab", laid_math_bits_deBruijn32tab), ("math/bits.deBruijn64tab", laid_math_bits_deBruijn64tab), ("internal/strconv.uint64pow10", laid_internal_strconv_uint64pow10)], narrowed := true }
def CardFillsUptoSaid : Prop := cardFillsUptoRow.holds Tryz.pinned (OpenSpec.upto cardFillsSpec)

/-- 'nacrelaw06.CardFilled', WHERE WHAT IT READS IS OF BULK AT MOST 1048576: true; the input reads as it did. -/
def cardFilledUptoRow : OpenClaim := { program := "ytjbeiclfggjbmaagreatdoor", sum := "f5286d96deb6b928cedc14beb5f7f67b7fc4048afb980e403b05b0ab31b9e3cb", func := "nacre/nacrelaw06.CardFilled", spec := "cardFilled", inPlace := ["internal/abi.NoEscape", "internal/bytealg.MakeNoZero"], unfollowed := true, recurses := true, named := ["internal/strconv.uint64pow10", "math/bits.deBruijn32tab", "math/bits.deBruijn64tab"], apart := false, laid := [("math/bits.deBruijn32tab", laid_math_bits_deBruijn32tab), ("math/bits.deBruijn64tab", laid_math_bits_deBruijn64tab), ("internal/strconv.uint64pow10", laid_internal_strconv_uint64pow10)], narrowed := true }
def CardFilledUptoSaid : Prop := cardFilledUptoRow.holds Tryz.pinned (OpenSpec.upto cardFilledSpec)

/-- 'nacrelaw06.CardMore', WHERE WHAT IT READS IS OF BULK AT MOST 1048576: true; the input reads as it did. -/
def cardMoreUptoRow : OpenClaim := { program := "ytjbeiclfggjbmaagreatdoor", sum := "f5286d96deb6b928cedc14beb5f7f67b7fc4048afb980e403b05b0ab31b9e3cb", func := "nacre/nacrelaw06.CardMore", spec := "cardMore", inPlace := ["internal/abi.NoEscape", "internal/bytealg.MakeNoZero"], unfollowed := true, recurses := true, named := ["internal/strconv.uint64pow10", "math/bits.deBruijn32tab", "math/bits.deBruijn64tab"], apart := false, laid := [("math/bits.deBruijn32tab", laid_math_bits_deBruijn32tab), ("math/bits.deBruijn64tab", laid_math_bits_deBruijn64tab), ("internal/strconv.uint64pow10", laid_internal_strconv_uint64pow10)], narrowed := true }
def CardMoreUptoSaid : Prop := cardMoreUptoRow.holds Tryz.pinned (OpenSpec.upto cardMoreSpec)

/-- 'nacrelaw06.CardAgrees', WHERE WHAT IT READS IS OF BULK AT MOST 1048576: true; the input reads as it did. -/
def cardAgreesUptoRow : OpenClaim := { program := "ytjbeiclfggjbmaagreatdoor", sum := "f5286d96deb6b928cedc14beb5f7f67b7fc4048afb980e403b05b0ab31b9e3cb", func := "nacre/nacrelaw06.CardAgrees", spec := "cardAgrees", inPlace := ["internal/abi.NoEscape", "internal/bytealg.MakeNoZero"], unfollowed := true, recurses := true, named := ["internal/strconv.uint64pow10", "math/bits.deBruijn32tab", "math/bits.deBruijn64tab"], apart := false, laid := [("math/bits.deBruijn32tab", laid_math_bits_deBruijn32tab), ("math/bits.deBruijn64tab", laid_math_bits_deBruijn64tab), ("internal/strconv.uint64pow10", laid_internal_strconv_uint64pow10)], narrowed := true }
def CardAgreesUptoSaid : Prop := cardAgreesUptoRow.holds Tryz.pinned (OpenSpec.upto cardAgreesSpec)

/-- 'nacrelaw06.CardNamed', WHERE WHAT IT READS IS OF BULK AT MOST 1048576: true; the input reads as it did. -/
def cardNamedUptoRow : OpenClaim := { program := "ytjbeiclfggjbmaagreatdoor", sum := "f5286d96deb6b928cedc14beb5f7f67b7fc4048afb980e403b05b0ab31b9e3cb", func := "nacre/nacrelaw06.CardNamed", spec := "cardNamed", inPlace := ["internal/abi.NoEscape", "internal/bytealg.MakeNoZero"], unfollowed := true, recurses := true, named := ["internal/strconv.uint64pow10", "math/bits.deBruijn32tab", "math/bits.deBruijn64tab"], apart := false, laid := [("math/bits.deBruijn32tab", laid_math_bits_deBruijn32tab), ("math/bits.deBruijn64tab", laid_math_bits_deBruijn64tab), ("internal/strconv.uint64pow10", laid_internal_strconv_uint64pow10)], narrowed := true }
def CardNamedUptoSaid : Prop := cardNamedUptoRow.holds Tryz.pinned (OpenSpec.upto cardNamedSpec)

/-- 'nacrelaw06.CardRuns', WHERE WHAT IT READS IS OF BULK AT MOST 1048576: true; the input reads as it did. -/
def cardRunsUptoRow : OpenClaim := { program := "ytjbeiclfggjbmaagreatdoor", sum := "f5286d96deb6b928cedc14beb5f7f67b7fc4048afb980e403b05b0ab31b9e3cb", func := "nacre/nacrelaw06.CardRuns", spec := "cardRuns", inPlace := ["internal/abi.NoEscape", "internal/bytealg.MakeNoZero"], unfollowed := true, recurses := true, named := ["internal/strconv.uint64pow10", "math/bits.deBruijn32tab", "math/bits.deBruijn64tab"], apart := false, laid := [("math/bits.deBruijn32tab", laid_math_bits_deBruijn32tab), ("math/bits.deBruijn64tab", laid_math_bits_deBruijn64tab), ("internal/strconv.uint64pow10", laid_internal_strconv_uint64pow10)], narrowed := true }
def CardRunsUptoSaid : Prop := cardRunsUptoRow.holds Tryz.pinned (OpenSpec.upto cardRunsSpec)

/-- 'nacrelaw06.CardKeeps', WHERE WHAT IT READS IS OF BULK AT MOST 1048576: true; the input reads as it did. -/
def cardKeepsUptoRow : OpenClaim := { program := "ytjbeiclfggjbmaagreatdoor", sum := "f5286d96deb6b928cedc14beb5f7f67b7fc4048afb980e403b05b0ab31b9e3cb", func := "nacre/nacrelaw06.CardKeeps", spec := "cardKeeps", inPlace := ["internal/abi.NoEscape", "internal/bytealg.MakeNoZero"], unfollowed := true, recurses := true, named := ["internal/strconv.uint64pow10", "math/bits.deBruijn32tab", "math/bits.deBruijn64tab"], apart := false, laid := [("math/bits.deBruijn32tab", laid_math_bits_deBruijn32tab), ("math/bits.deBruijn64tab", laid_math_bits_deBruijn64tab), ("internal/strconv.uint64pow10", laid_internal_strconv_uint64pow10)], narrowed := true }
def CardKeepsUptoSaid : Prop := cardKeepsUptoRow.holds Tryz.pinned (OpenSpec.upto cardKeepsSpec)

/-- 'nacrelaw06.CardFewest', WHERE WHAT IT READS IS OF BULK AT MOST 1048576: true; the input reads as it did. -/
def cardFewestUptoRow : OpenClaim := { program := "ytjbeiclfggjbmaagreatdoor", sum := "f5286d96deb6b928cedc14beb5f7f67b7fc4048afb980e403b05b0ab31b9e3cb", func := "nacre/nacrelaw06.CardFewest", spec := "cardFewest", inPlace := ["internal/abi.NoEscape", "internal/bytealg.MakeNoZero"], unfollowed := true, recurses := true, named := ["internal/strconv.uint64pow10", "math/bits.deBruijn32tab", "math/bits.deBruijn64tab"], apart := false, laid := [("math/bits.deBruijn32tab", laid_math_bits_deBruijn32tab), ("math/bits.deBruijn64tab", laid_math_bits_deBruijn64tab), ("internal/strconv.uint64pow10", laid_internal_strconv_uint64pow10)], narrowed := true }
def CardFewestUptoSaid : Prop := cardFewestUptoRow.holds Tryz.pinned (OpenSpec.upto cardFewestSpec)

/-- 'nacrelaw06.CardTrue', WHERE WHAT IT READS IS OF BULK AT MOST 1048576: true; the input reads as it did. -/
def cardTrueUptoRow : OpenClaim := { program := "ytjbeiclfggjbmaagreatdoor", sum := "f5286d96deb6b928cedc14beb5f7f67b7fc4048afb980e403b05b0ab31b9e3cb", func := "nacre/nacrelaw06.CardTrue", spec := "cardTrue", inPlace := ["internal/abi.NoEscape", "internal/bytealg.MakeNoZero"], unfollowed := true, recurses := true, named := ["internal/strconv.uint64pow10", "math/bits.deBruijn32tab", "math/bits.deBruijn64tab"], apart := false, laid := [("math/bits.deBruijn32tab", laid_math_bits_deBruijn32tab), ("math/bits.deBruijn64tab", laid_math_bits_deBruijn64tab), ("internal/strconv.uint64pow10", laid_internal_strconv_uint64pow10)], narrowed := true }
def CardTrueUptoSaid : Prop := cardTrueUptoRow.holds Tryz.pinned (OpenSpec.upto cardTrueSpec)

/-- 'nacrelaw06.CardEnds', WHERE WHAT IT READS IS OF BULK AT MOST 1048576: true; the input reads as it did. -/
def cardEndsUptoRow : OpenClaim := { program := "ytjbeiclfggjbmaagreatdoor", sum := "f5286d96deb6b928cedc14beb5f7f67b7fc4048afb980e403b05b0ab31b9e3cb", func := "nacre/nacrelaw06.CardEnds", spec := "cardEnds", inPlace := ["internal/abi.NoEscape", "internal/bytealg.MakeNoZero"], unfollowed := true, recurses := true, named := ["internal/strconv.uint64pow10", "math/bits.deBruijn32tab", "math/bits.deBruijn64tab"], apart := false, laid := [("math/bits.deBruijn32tab", laid_math_bits_deBruijn32tab), ("math/bits.deBruijn64tab", laid_math_bits_deBruijn64tab), ("internal/strconv.uint64pow10", laid_internal_strconv_uint64pow10)], narrowed := true }
def CardEndsUptoSaid : Prop := cardEndsUptoRow.holds Tryz.pinned (OpenSpec.upto cardEndsSpec)

/-- 'nacrelaw06.CardPrints', WHERE WHAT IT READS IS OF BULK AT MOST 1048576: true; the input reads as it did. -/
def cardPrintsUptoRow : OpenClaim := { program := "ytjbeiclfggjbmaagreatdoor", sum := "f5286d96deb6b928cedc14beb5f7f67b7fc4048afb980e403b05b0ab31b9e3cb", func := "nacre/nacrelaw06.CardPrints", spec := "cardPrints", inPlace := ["internal/abi.NoEscape", "internal/bytealg.MakeNoZero", "internal/bytealg.CountString", "internal/bytealg.IndexByteString", "internal/bytealg.IndexString"], unfollowed := true, recurses := true, named := ["internal/strconv.uint64pow10", "math/bits.deBruijn32tab", "math/bits.deBruijn64tab", "unicode/utf8.first", "unicode/utf8.acceptRanges", "internal/bytealg.MaxLen"], apart := false, laid := [("math/bits.deBruijn32tab", laid_math_bits_deBruijn32tab), ("math/bits.deBruijn64tab", laid_math_bits_deBruijn64tab), ("internal/strconv.uint64pow10", laid_internal_strconv_uint64pow10), ("unicode/utf8.acceptRanges", laid_unicode_utf8_acceptRanges), ("unicode/utf8.first", laid_unicode_utf8_first)], narrowed := true }
def CardPrintsUptoSaid : Prop := cardPrintsUptoRow.holds Tryz.pinned (OpenSpec.upto cardPrintsSpec)

/-- 'nacrelaw06.CardReads', WHERE WHAT IT READS IS OF BULK AT MOST 1048576: true; the input reads as it did. -/
def cardReadsUptoRow : OpenClaim := { program := "ytjbeiclfggjbmaagreatdoor", sum := "f5286d96deb6b928cedc14beb5f7f67b7fc4048afb980e403b05b0ab31b9e3cb", func := "nacre/nacrelaw06.CardReads", spec := "cardReads", inPlace := ["internal/abi.NoEscape", "internal/bytealg.MakeNoZero", "internal/bytealg.CountString", "internal/bytealg.IndexByteString", "internal/bytealg.IndexString"], unfollowed := true, recurses := true, named := ["internal/strconv.uint64pow10", "math/bits.deBruijn32tab", "math/bits.deBruijn64tab", "unicode/utf8.first", "unicode/utf8.acceptRanges", "internal/bytealg.MaxLen"], apart := false, laid := [("math/bits.deBruijn32tab", laid_math_bits_deBruijn32tab), ("math/bits.deBruijn64tab", laid_math_bits_deBruijn64tab), ("internal/strconv.uint64pow10", laid_internal_strconv_uint64pow10), ("unicode/utf8.acceptRanges", laid_unicode_utf8_acceptRanges), ("unicode/utf8.first", laid_unicode_utf8_first)], narrowed := true }
def CardReadsUptoSaid : Prop := cardReadsUptoRow.holds Tryz.pinned (OpenSpec.upto cardReadsSpec)

/-- 'nacrelaw06.CardSpoilt', WHERE WHAT IT READS IS OF BULK AT MOST 1048576: true; the input reads as it did. -/
def cardSpoiltUptoRow : OpenClaim := { program := "ytjbeiclfggjbmaagreatdoor", sum := "f5286d96deb6b928cedc14beb5f7f67b7fc4048afb980e403b05b0ab31b9e3cb", func := "nacre/nacrelaw06.CardSpoilt", spec := "cardSpoilt", inPlace := ["internal/abi.NoEscape", "internal/bytealg.MakeNoZero", "internal/bytealg.CountString", "internal/bytealg.IndexByteString", "internal/bytealg.IndexString"], unfollowed := true, recurses := true, named := ["internal/strconv.uint64pow10", "math/bits.deBruijn32tab", "math/bits.deBruijn64tab", "unicode/utf8.first", "unicode/utf8.acceptRanges", "internal/bytealg.MaxLen"], apart := false, laid := [("math/bits.deBruijn32tab", laid_math_bits_deBruijn32tab), ("math/bits.deBruijn64tab", laid_math_bits_deBruijn64tab), ("internal/strconv.uint64pow10", laid_internal_strconv_uint64pow10), ("unicode/utf8.acceptRanges", laid_unicode_utf8_acceptRanges), ("unicode/utf8.first", laid_unicode_utf8_first)], narrowed := true }
def CardSpoiltUptoSaid : Prop := cardSpoiltUptoRow.holds Tryz.pinned (OpenSpec.upto cardSpoiltSpec)

end Rows
end Go.Proofs.YtjbeiclfggjbmaaGreatDoor
