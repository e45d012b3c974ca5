/-
  NARROWER THAN 'FOR EVERY INPUT', by the rows' own cells (each row's printed sentence says how): FnExactOrderStarts: laid · FnOrderStartsFirst: laid · FnExactBestTime: laid · FnExactReadyOrder: laid · FnExactBestOrder: laid · FnBestOrderLeast: laid · FnHeadTimesMany: laid · FnBestTimeMore: laid · FnBestTimeLess: laid · FnReadyOrderLeft: laid.
  DERIVED. THE GIVEN ROWS OF THIS SEAT. 10 by the template 'for every input the law returns true; each argument reads behind the call as it read before'; 0 by the template 'total and deterministic' (their statements: YtdmeiiedbhfniaaDoorTotals.lean).
  GIVEN WITH THE SEED: the statements are not yours to turn. If you find one false, say at which input.
  Laid BY PROGRAM, IN A SANDBOX (cutbox-rows.mjs): the forced cells as the released guide's own fill.sh prints them over the translation 42fe615b0e23f0d7… (all of the seat's roots in one cut). By AI agents, Wed Nov 11 2026. No macro, syntax, notation, axiom, sorry.
-/
import Derived.Test.YtdmeiiedbhfniaaDoorChecked
import GoSem.Claim
import GoSem.ClaimJoined
import GoSem.ClaimMapViews
import Derived.JoinedTies
import Derived.KernelRfl
namespace Go.Proofs.YtdmeiiedbhfniaaDoor
/- THE CELL 'sum', in the pinned program and in every row, IS THE sha256 OF THE DUMP (.gsa) THAT YtdmeiiedbhfniaaDoorProg.lean LOADS. Nothing in Lean hashes anything: it is a label: what it is worth is what the hold of that sum in a sandbox is worth. -/
noncomputable def Tryd.pinned : Pinned := { name := "ytdmeiiedbhfniaadoor", sum := "42fe615b0e23f0d73a7a3246fb3ad4541a5e3cc1d157eea1430ad38eaabd1cfb", checked := Tryd.checked }
namespace Rows
def none {H : Type} : Left H := { results := [], args := [] }

/- WHAT THE LISTED PACKAGE-LEVEL VARIABLES READ AS WHEN THE CALL BEGINS. Each datum BY PROGRAM (the guide's laid-datum.mjs) off the statement by which the dump's own 'gosem.cut.vars' lays the variable. In a bare row this is a premise. The card (YtdmeiiedbhfniaaDoorCards.lean) ties it to the program's text. -/
def laid_math_bits_deBruijn32tab {H : Type} : DataW H := .agg [.lit (.int .u8 0), .lit (.int .u8 1), .lit (.int .u8 28), .lit (.int .u8 2), .lit (.int .u8 29), .lit (.int .u8 14), .lit (.int .u8 24), .lit (.int .u8 3), .lit (.int .u8 30), .lit (.int .u8 22), .lit (.int .u8 20), .lit (.int .u8 15), .lit (.int .u8 25), .lit (.int .u8 17), .lit (.int .u8 4), .lit (.int .u8 8), .lit (.int .u8 31), .lit (.int .u8 27), .lit (.int .u8 13), .lit (.int .u8 23), .lit (.int .u8 21), .lit (.int .u8 19), .lit (.int .u8 16), .lit (.int .u8 7), .lit (.int .u8 26), .lit (.int .u8 12), .lit (.int .u8 18), .lit (.int .u8 6), .lit (.int .u8 11), .lit (.int .u8 5), .lit (.int .u8 10), .lit (.int .u8 9)]

/-- 'laws.FnExactOrderStarts': WHATEVER THE INPUT: true; the input reads as it did. -/
def fnExactOrderStartsSpec : ChangeSpec := { name := "fnExactOrderStarts", fn := fun _ => fun
  | [d1, d2, d3, d4] => { results := [.lit (.bool true)], args := [d1, d2, d3, d4] }
  | _ => none }
def fnExactOrderStartsRow : OpenClaim := { program := "ytdmeiiedbhfniaadoor", sum := "42fe615b0e23f0d73a7a3246fb3ad4541a5e3cc1d157eea1430ad38eaabd1cfb", func := "loop.example/buildscheduler/laws.FnExactOrderStarts", spec := "fnExactOrderStarts", unfollowed := true, recurses := true, named := ["math/bits.deBruijn32tab"], apart := false, laid := [("math/bits.deBruijn32tab", laid_math_bits_deBruijn32tab)] }
def FnExactOrderStartsSaid : Prop := fnExactOrderStartsRow.holds Tryd.pinned (OpenSpec.ofChange fnExactOrderStartsSpec)

/-- ITS FALSE NEIGHBOUR: 'it returns false'. Refute it at one input. -/
def fnExactOrderStartsWrong : ChangeSpec := { name := "fnExactOrderStarts", fn := fun _ => fun
  | [d1, d2, d3, d4] => { results := [.lit (.bool false)], args := [d1, d2, d3, d4] }
  | _ => none }
def FnExactOrderStartsWrongFalsely : Prop := fnExactOrderStartsRow.holds Tryd.pinned (OpenSpec.ofChange fnExactOrderStartsWrong)

/-- 'laws.FnOrderStartsFirst': WHATEVER THE INPUT: true; the input reads as it did. -/
def fnOrderStartsFirstSpec : ChangeSpec := { name := "fnOrderStartsFirst", fn := fun _ => fun
  | [d] => { results := [.lit (.bool true)], args := [d] }
  | _ => none }
def fnOrderStartsFirstRow : OpenClaim := { program := "ytdmeiiedbhfniaadoor", sum := "42fe615b0e23f0d73a7a3246fb3ad4541a5e3cc1d157eea1430ad38eaabd1cfb", func := "loop.example/buildscheduler/laws.FnOrderStartsFirst", spec := "fnOrderStartsFirst", unfollowed := true, recurses := true, named := ["math/bits.deBruijn32tab"], apart := false, laid := [("math/bits.deBruijn32tab", laid_math_bits_deBruijn32tab)] }
def FnOrderStartsFirstSaid : Prop := fnOrderStartsFirstRow.holds Tryd.pinned (OpenSpec.ofChange fnOrderStartsFirstSpec)

/-- ITS FALSE NEIGHBOUR: 'it returns false'. Refute it at one input. -/
def fnOrderStartsFirstWrong : ChangeSpec := { name := "fnOrderStartsFirst", fn := fun _ => fun
  | [d] => { results := [.lit (.bool false)], args := [d] }
  | _ => none }
def FnOrderStartsFirstWrongFalsely : Prop := fnOrderStartsFirstRow.holds Tryd.pinned (OpenSpec.ofChange fnOrderStartsFirstWrong)

/-- 'laws.FnExactBestTime': WHATEVER THE INPUT: true; the input reads as it did. -/
def fnExactBestTimeSpec : ChangeSpec := { name := "fnExactBestTime", fn := fun _ => fun
  | [d1, d2, d3] => { results := [.lit (.bool true)], args := [d1, d2, d3] }
  | _ => none }
def fnExactBestTimeRow : OpenClaim := { program := "ytdmeiiedbhfniaadoor", sum := "42fe615b0e23f0d73a7a3246fb3ad4541a5e3cc1d157eea1430ad38eaabd1cfb", func := "loop.example/buildscheduler/laws.FnExactBestTime", spec := "fnExactBestTime", unfollowed := true, recurses := true, named := ["math/bits.deBruijn32tab"], apart := false, laid := [("math/bits.deBruijn32tab", laid_math_bits_deBruijn32tab)] }
def FnExactBestTimeSaid : Prop := fnExactBestTimeRow.holds Tryd.pinned (OpenSpec.ofChange fnExactBestTimeSpec)

/-- ITS FALSE NEIGHBOUR: 'it returns false'. Refute it at one input. -/
def fnExactBestTimeWrong : ChangeSpec := { name := "fnExactBestTime", fn := fun _ => fun
  | [d1, d2, d3] => { results := [.lit (.bool false)], args := [d1, d2, d3] }
  | _ => none }
def FnExactBestTimeWrongFalsely : Prop := fnExactBestTimeRow.holds Tryd.pinned (OpenSpec.ofChange fnExactBestTimeWrong)

/-- 'laws.FnExactReadyOrder': WHATEVER THE INPUT: true; the input reads as it did. -/
def fnExactReadyOrderSpec : ChangeSpec := { name := "fnExactReadyOrder", fn := fun _ => fun
  | [d1, d2] => { results := [.lit (.bool true)], args := [d1, d2] }
  | _ => none }
def fnExactReadyOrderRow : OpenClaim := { program := "ytdmeiiedbhfniaadoor", sum := "42fe615b0e23f0d73a7a3246fb3ad4541a5e3cc1d157eea1430ad38eaabd1cfb", func := "loop.example/buildscheduler/laws.FnExactReadyOrder", spec := "fnExactReadyOrder", unfollowed := true, recurses := true, named := ["math/bits.deBruijn32tab"], apart := false, laid := [("math/bits.deBruijn32tab", laid_math_bits_deBruijn32tab)] }
def FnExactReadyOrderSaid : Prop := fnExactReadyOrderRow.holds Tryd.pinned (OpenSpec.ofChange fnExactReadyOrderSpec)

/-- ITS FALSE NEIGHBOUR: 'it returns false'. Refute it at one input. -/
def fnExactReadyOrderWrong : ChangeSpec := { name := "fnExactReadyOrder", fn := fun _ => fun
  | [d1, d2] => { results := [.lit (.bool false)], args := [d1, d2] }
  | _ => none }
def FnExactReadyOrderWrongFalsely : Prop := fnExactReadyOrderRow.holds Tryd.pinned (OpenSpec.ofChange fnExactReadyOrderWrong)

/-- 'laws.FnExactBestOrder': WHATEVER THE INPUT: true; the input reads as it did. -/
def fnExactBestOrderSpec : ChangeSpec := { name := "fnExactBestOrder", fn := fun _ => fun
  | [d1, d2, d3] => { results := [.lit (.bool true)], args := [d1, d2, d3] }
  | _ => none }
def fnExactBestOrderRow : OpenClaim := { program := "ytdmeiiedbhfniaadoor", sum := "42fe615b0e23f0d73a7a3246fb3ad4541a5e3cc1d157eea1430ad38eaabd1cfb", func := "loop.example/buildscheduler/laws.FnExactBestOrder", spec := "fnExactBestOrder", unfollowed := true, recurses := true, named := ["math/bits.deBruijn32tab"], apart := false, laid := [("math/bits.deBruijn32tab", laid_math_bits_deBruijn32tab)] }
def FnExactBestOrderSaid : Prop := fnExactBestOrderRow.holds Tryd.pinned (OpenSpec.ofChange fnExactBestOrderSpec)

/-- ITS FALSE NEIGHBOUR: 'it returns false'. Refute it at one input. -/
def fnExactBestOrderWrong : ChangeSpec := { name := "fnExactBestOrder", fn := fun _ => fun
  | [d1, d2, d3] => { results := [.lit (.bool false)], args := [d1, d2, d3] }
  | _ => none }
def FnExactBestOrderWrongFalsely : Prop := fnExactBestOrderRow.holds Tryd.pinned (OpenSpec.ofChange fnExactBestOrderWrong)

/-- 'laws.FnBestOrderLeast': WHATEVER THE INPUT: true; the input reads as it did. -/
def fnBestOrderLeastSpec : ChangeSpec := { name := "fnBestOrderLeast", fn := fun _ => fun
  | [d] => { results := [.lit (.bool true)], args := [d] }
  | _ => none }
def fnBestOrderLeastRow : OpenClaim := { program := "ytdmeiiedbhfniaadoor", sum := "42fe615b0e23f0d73a7a3246fb3ad4541a5e3cc1d157eea1430ad38eaabd1cfb", func := "loop.example/buildscheduler/laws.FnBestOrderLeast", spec := "fnBestOrderLeast", unfollowed := true, recurses := true, named := ["math/bits.deBruijn32tab"], apart := false, laid := [("math/bits.deBruijn32tab", laid_math_bits_deBruijn32tab)] }
def FnBestOrderLeastSaid : Prop := fnBestOrderLeastRow.holds Tryd.pinned (OpenSpec.ofChange fnBestOrderLeastSpec)

/-- ITS FALSE NEIGHBOUR: 'it returns false'. Refute it at one input. -/
def fnBestOrderLeastWrong : ChangeSpec := { name := "fnBestOrderLeast", fn := fun _ => fun
  | [d] => { results := [.lit (.bool false)], args := [d] }
  | _ => none }
def FnBestOrderLeastWrongFalsely : Prop := fnBestOrderLeastRow.holds Tryd.pinned (OpenSpec.ofChange fnBestOrderLeastWrong)

/-- 'laws.FnHeadTimesMany': WHATEVER THE INPUT: true; the input reads as it did. -/
def fnHeadTimesManySpec : ChangeSpec := { name := "fnHeadTimesMany", fn := fun _ => fun
  | [d] => { results := [.lit (.bool true)], args := [d] }
  | _ => none }
def fnHeadTimesManyRow : OpenClaim := { program := "ytdmeiiedbhfniaadoor", sum := "42fe615b0e23f0d73a7a3246fb3ad4541a5e3cc1d157eea1430ad38eaabd1cfb", func := "loop.example/buildscheduler/laws.FnHeadTimesMany", spec := "fnHeadTimesMany", unfollowed := true, recurses := true, named := ["math/bits.deBruijn32tab"], apart := false, laid := [("math/bits.deBruijn32tab", laid_math_bits_deBruijn32tab)] }
def FnHeadTimesManySaid : Prop := fnHeadTimesManyRow.holds Tryd.pinned (OpenSpec.ofChange fnHeadTimesManySpec)

/-- ITS FALSE NEIGHBOUR: 'it returns false'. Refute it at one input. -/
def fnHeadTimesManyWrong : ChangeSpec := { name := "fnHeadTimesMany", fn := fun _ => fun
  | [d] => { results := [.lit (.bool false)], args := [d] }
  | _ => none }
def FnHeadTimesManyWrongFalsely : Prop := fnHeadTimesManyRow.holds Tryd.pinned (OpenSpec.ofChange fnHeadTimesManyWrong)

/-- 'laws.FnBestTimeMore': WHATEVER THE INPUT: true; the input reads as it did. -/
def fnBestTimeMoreSpec : ChangeSpec := { name := "fnBestTimeMore", fn := fun _ => fun
  | [d] => { results := [.lit (.bool true)], args := [d] }
  | _ => none }
def fnBestTimeMoreRow : OpenClaim := { program := "ytdmeiiedbhfniaadoor", sum := "42fe615b0e23f0d73a7a3246fb3ad4541a5e3cc1d157eea1430ad38eaabd1cfb", func := "loop.example/buildscheduler/laws.FnBestTimeMore", spec := "fnBestTimeMore", unfollowed := true, recurses := true, named := ["math/bits.deBruijn32tab"], apart := false, laid := [("math/bits.deBruijn32tab", laid_math_bits_deBruijn32tab)] }
def FnBestTimeMoreSaid : Prop := fnBestTimeMoreRow.holds Tryd.pinned (OpenSpec.ofChange fnBestTimeMoreSpec)

/-- ITS FALSE NEIGHBOUR: 'it returns false'. Refute it at one input. -/
def fnBestTimeMoreWrong : ChangeSpec := { name := "fnBestTimeMore", fn := fun _ => fun
  | [d] => { results := [.lit (.bool false)], args := [d] }
  | _ => none }
def FnBestTimeMoreWrongFalsely : Prop := fnBestTimeMoreRow.holds Tryd.pinned (OpenSpec.ofChange fnBestTimeMoreWrong)

/-- 'laws.FnBestTimeLess': WHATEVER THE INPUT: true; the input reads as it did. -/
def fnBestTimeLessSpec : ChangeSpec := { name := "fnBestTimeLess", fn := fun _ => fun
  | [d] => { results := [.lit (.bool true)], args := [d] }
  | _ => none }
def fnBestTimeLessRow : OpenClaim := { program := "ytdmeiiedbhfniaadoor", sum := "42fe615b0e23f0d73a7a3246fb3ad4541a5e3cc1d157eea1430ad38eaabd1cfb", func := "loop.example/buildscheduler/laws.FnBestTimeLess", spec := "fnBestTimeLess", unfollowed := true, recurses := true, named := ["math/bits.deBruijn32tab"], apart := false, laid := [("math/bits.deBruijn32tab", laid_math_bits_deBruijn32tab)] }
def FnBestTimeLessSaid : Prop := fnBestTimeLessRow.holds Tryd.pinned (OpenSpec.ofChange fnBestTimeLessSpec)

/-- ITS FALSE NEIGHBOUR: 'it returns false'. Refute it at one input. -/
def fnBestTimeLessWrong : ChangeSpec := { name := "fnBestTimeLess", fn := fun _ => fun
  | [d] => { results := [.lit (.bool false)], args := [d] }
  | _ => none }
def FnBestTimeLessWrongFalsely : Prop := fnBestTimeLessRow.holds Tryd.pinned (OpenSpec.ofChange fnBestTimeLessWrong)

/-- 'laws.FnReadyOrderLeft': WHATEVER THE INPUT: true; the input reads as it did. -/
def fnReadyOrderLeftSpec : ChangeSpec := { name := "fnReadyOrderLeft", fn := fun _ => fun
  | [d] => { results := [.lit (.bool true)], args := [d] }
  | _ => none }
def fnReadyOrderLeftRow : OpenClaim := { program := "ytdmeiiedbhfniaadoor", sum := "42fe615b0e23f0d73a7a3246fb3ad4541a5e3cc1d157eea1430ad38eaabd1cfb", func := "loop.example/buildscheduler/laws.FnReadyOrderLeft", spec := "fnReadyOrderLeft", unfollowed := true, recurses := true, named := ["math/bits.deBruijn32tab"], apart := false, laid := [("math/bits.deBruijn32tab", laid_math_bits_deBruijn32tab)] }
def FnReadyOrderLeftSaid : Prop := fnReadyOrderLeftRow.holds Tryd.pinned (OpenSpec.ofChange fnReadyOrderLeftSpec)

/-- ITS FALSE NEIGHBOUR: 'it returns false'. Refute it at one input. -/
def fnReadyOrderLeftWrong : ChangeSpec := { name := "fnReadyOrderLeft", fn := fun _ => fun
  | [d] => { results := [.lit (.bool false)], args := [d] }
  | _ => none }
def FnReadyOrderLeftWrongFalsely : Prop := fnReadyOrderLeftRow.holds Tryd.pinned (OpenSpec.ofChange fnReadyOrderLeftWrong)

/- THE SECOND FORM. 'bulk': how many values and letters a reading holds, each counted each time it is reached (what is shared counts as often as it is met; a slice's spare places count too). A statement '..UptoSaid' is the law's where the arguments, and the package variables that the reading takes, are together of bulk at most 1048576: NARROWER than '..Said'. Prove '..Said' where nothing that the law and all that it calls make is longer than what came in: it says more and counts as full. Else prove '..UptoSaid'. A law counts once. -/
mutual
def uptoBulk {H : Type} : DataW H → Nat
  | .lit (.string bytes) => bytes.length + 1
  | .lit _ => 1
  | .nil => 1
  | .ptr d => uptoBulk d + 1
  | .slice elems spare => uptoBulkAll elems + uptoBulkAll spare + 1
  | .agg parts => uptoBulkAll parts + 1
  | .iface _ d => uptoBulk d + 1
  | .map entries => uptoBulkEntries entries + 1
  | .held _ => 1
def uptoBulkAll {H : Type} : List (DataW H) → Nat
  | [] => 0
  | d :: r => uptoBulk d + uptoBulkAll r
def uptoBulkEntries {H : Type} : List (Lit × DataW H) → Nat
  | [] => 0
  | x :: r => uptoBulkEntry x + uptoBulkEntries r
def uptoBulkEntry {H : Type} : Lit × DataW H → Nat
  | (.string bytes, d) => bytes.length + uptoBulk d + 1
  | (_, d) => uptoBulk d + 1
 end
def uptoSmall : (H : Type) → List (DataW H) → Bool := fun _ ds => decide (uptoBulkAll ds ≤ 1048576)
def OpenSpec.upto (s : _root_.Go.ChangeSpec) : _root_.Go.OpenSpec := { _root_.Go.OpenSpec.ofChange s with cond := some uptoSmall }

/-- 'laws.FnExactOrderStarts', WHERE WHAT IT READS IS OF BULK AT MOST 1048576: true; the input reads as it did. -/
def fnExactOrderStartsUptoRow : OpenClaim := { program := "ytdmeiiedbhfniaadoor", sum := "42fe615b0e23f0d73a7a3246fb3ad4541a5e3cc1d157eea1430ad38eaabd1cfb", func := "loop.example/buildscheduler/laws.FnExactOrderStarts", spec := "fnExactOrderStarts", unfollowed := true, recurses := true, named := ["math/bits.deBruijn32tab"], apart := false, laid := [("math/bits.deBruijn32tab", laid_math_bits_deBruijn32tab)], narrowed := true }
def FnExactOrderStartsUptoSaid : Prop := fnExactOrderStartsUptoRow.holds Tryd.pinned (OpenSpec.upto fnExactOrderStartsSpec)

/-- 'laws.FnOrderStartsFirst', WHERE WHAT IT READS IS OF BULK AT MOST 1048576: true; the input reads as it did. -/
def fnOrderStartsFirstUptoRow : OpenClaim := { program := "ytdmeiiedbhfniaadoor", sum := "42fe615b0e23f0d73a7a3246fb3ad4541a5e3cc1d157eea1430ad38eaabd1cfb", func := "loop.example/buildscheduler/laws.FnOrderStartsFirst", spec := "fnOrderStartsFirst", unfollowed := true, recurses := true, named := ["math/bits.deBruijn32tab"], apart := false, laid := [("math/bits.deBruijn32tab", laid_math_bits_deBruijn32tab)], narrowed := true }
def FnOrderStartsFirstUptoSaid : Prop := fnOrderStartsFirstUptoRow.holds Tryd.pinned (OpenSpec.upto fnOrderStartsFirstSpec)

/-- 'laws.FnExactBestTime', WHERE WHAT IT READS IS OF BULK AT MOST 1048576: true; the input reads as it did. -/
def fnExactBestTimeUptoRow : OpenClaim := { program := "ytdmeiiedbhfniaadoor", sum := "42fe615b0e23f0d73a7a3246fb3ad4541a5e3cc1d157eea1430ad38eaabd1cfb", func := "loop.example/buildscheduler/laws.FnExactBestTime", spec := "fnExactBestTime", unfollowed := true, recurses := true, named := ["math/bits.deBruijn32tab"], apart := false, laid := [("math/bits.deBruijn32tab", laid_math_bits_deBruijn32tab)], narrowed := true }
def FnExactBestTimeUptoSaid : Prop := fnExactBestTimeUptoRow.holds Tryd.pinned (OpenSpec.upto fnExactBestTimeSpec)

/-- 'laws.FnExactReadyOrder', WHERE WHAT IT READS IS OF BULK AT MOST 1048576: true; the input reads as it did. -/
def fnExactReadyOrderUptoRow : OpenClaim := { program := "ytdmeiiedbhfniaadoor", sum := "42fe615b0e23f0d73a7a3246fb3ad4541a5e3cc1d157eea1430ad38eaabd1cfb", func := "loop.example/buildscheduler/laws.FnExactReadyOrder", spec := "fnExactReadyOrder", unfollowed := true, recurses := true, named := ["math/bits.deBruijn32tab"], apart := false, laid := [("math/bits.deBruijn32tab", laid_math_bits_deBruijn32tab)], narrowed := true }
def FnExactReadyOrderUptoSaid : Prop := fnExactReadyOrderUptoRow.holds Tryd.pinned (OpenSpec.upto fnExactReadyOrderSpec)

/-- 'laws.FnExactBestOrder', WHERE WHAT IT READS IS OF BULK AT MOST 1048576: true; the input reads as it did. -/
def fnExactBestOrderUptoRow : OpenClaim := { program := "ytdmeiiedbhfniaadoor", sum := "42fe615b0e23f0d73a7a3246fb3ad4541a5e3cc1d157eea1430ad38eaabd1cfb", func := "loop.example/buildscheduler/laws.FnExactBestOrder", spec := "fnExactBestOrder", unfollowed := true, recurses := true, named := ["math/bits.deBruijn32tab"], apart := false, laid := [("math/bits.deBruijn32tab", laid_math_bits_deBruijn32tab)], narrowed := true }
def FnExactBestOrderUptoSaid : Prop := fnExactBestOrderUptoRow.holds Tryd.pinned (OpenSpec.upto fnExactBestOrderSpec)

/-- 'laws.FnBestOrderLeast', WHERE WHAT IT READS IS OF BULK AT MOST 1048576: true; the input reads as it did. -/
def fnBestOrderLeastUptoRow : OpenClaim := { program := "ytdmeiiedbhfniaadoor", sum := "42fe615b0e23f0d73a7a3246fb3ad4541a5e3cc1d157eea1430ad38eaabd1cfb", func := "loop.example/buildscheduler/laws.FnBestOrderLeast", spec := "fnBestOrderLeast", unfollowed := true, recurses := true, named := ["math/bits.deBruijn32tab"], apart := false, laid := [("math/bits.deBruijn32tab", laid_math_bits_deBruijn32tab)], narrowed := true }
def FnBestOrderLeastUptoSaid : Prop := fnBestOrderLeastUptoRow.holds Tryd.pinned (OpenSpec.upto fnBestOrderLeastSpec)

/-- 'laws.FnHeadTimesMany', WHERE WHAT IT READS IS OF BULK AT MOST 1048576: true; the input reads as it did. -/
def fnHeadTimesManyUptoRow : OpenClaim := { program := "ytdmeiiedbhfniaadoor", sum := "42fe615b0e23f0d73a7a3246fb3ad4541a5e3cc1d157eea1430ad38eaabd1cfb", func := "loop.example/buildscheduler/laws.FnHeadTimesMany", spec := "fnHeadTimesMany", unfollowed := true, recurses := true, named := ["math/bits.deBruijn32tab"], apart := false, laid := [("math/bits.deBruijn32tab", laid_math_bits_deBruijn32tab)], narrowed := true }
def FnHeadTimesManyUptoSaid : Prop := fnHeadTimesManyUptoRow.holds Tryd.pinned (OpenSpec.upto fnHeadTimesManySpec)

/-- 'laws.FnBestTimeMore', WHERE WHAT IT READS IS OF BULK AT MOST 1048576: true; the input reads as it did. -/
def fnBestTimeMoreUptoRow : OpenClaim := { program := "ytdmeiiedbhfniaadoor", sum := "42fe615b0e23f0d73a7a3246fb3ad4541a5e3cc1d157eea1430ad38eaabd1cfb", func := "loop.example/buildscheduler/laws.FnBestTimeMore", spec := "fnBestTimeMore", unfollowed := true, recurses := true, named := ["math/bits.deBruijn32tab"], apart := false, laid := [("math/bits.deBruijn32tab", laid_math_bits_deBruijn32tab)], narrowed := true }
def FnBestTimeMoreUptoSaid : Prop := fnBestTimeMoreUptoRow.holds Tryd.pinned (OpenSpec.upto fnBestTimeMoreSpec)

/-- 'laws.FnBestTimeLess', WHERE WHAT IT READS IS OF BULK AT MOST 1048576: true; the input reads as it did. -/
def fnBestTimeLessUptoRow : OpenClaim := { program := "ytdmeiiedbhfniaadoor", sum := "42fe615b0e23f0d73a7a3246fb3ad4541a5e3cc1d157eea1430ad38eaabd1cfb", func := "loop.example/buildscheduler/laws.FnBestTimeLess", spec := "fnBestTimeLess", unfollowed := true, recurses := true, named := ["math/bits.deBruijn32tab"], apart := false, laid := [("math/bits.deBruijn32tab", laid_math_bits_deBruijn32tab)], narrowed := true }
def FnBestTimeLessUptoSaid : Prop := fnBestTimeLessUptoRow.holds Tryd.pinned (OpenSpec.upto fnBestTimeLessSpec)

/-- 'laws.FnReadyOrderLeft', WHERE WHAT IT READS IS OF BULK AT MOST 1048576: true; the input reads as it did. -/
def fnReadyOrderLeftUptoRow : OpenClaim := { program := "ytdmeiiedbhfniaadoor", sum := "42fe615b0e23f0d73a7a3246fb3ad4541a5e3cc1d157eea1430ad38eaabd1cfb", func := "loop.example/buildscheduler/laws.FnReadyOrderLeft", spec := "fnReadyOrderLeft", unfollowed := true, recurses := true, named := ["math/bits.deBruijn32tab"], apart := false, laid := [("math/bits.deBruijn32tab", laid_math_bits_deBruijn32tab)], narrowed := true }
def FnReadyOrderLeftUptoSaid : Prop := fnReadyOrderLeftUptoRow.holds Tryd.pinned (OpenSpec.upto fnReadyOrderLeftSpec)

end Rows
end Go.Proofs.YtdmeiiedbhfniaaDoor
