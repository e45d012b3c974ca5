/-
  DERIVED. GIVEN WITH THE SEED: THE CARDS: each row of YtdmeiiedbhfniaaDoorRows.lean that lists a variable, with what it lists TIED to the program's text (the seventh form; the later family's looks); each row that meets fmt, with fmt's text TOLD by the authors' own Lean function (tested against real Go, not proved from fmt's source: count such statements apart). THE CARD IS WHAT COUNTS. Prove the row's statement (the work); the ties are given (YtdmeiiedbhfniaaDoorTie.lean); close each card by the builder's one call (the guide's Derived/Test/ToyasCard.lean, 'card_holds'). Laid BY PROGRAM, IN A SANDBOX (cutbox-door.mjs). By AI agents, Wed Nov 11 2026. No macro, syntax, notation, axiom, sorry.
-/
import Derived.Test.YtdmeiiedbhfniaaDoorRows
import GoSem.ClaimSeven
namespace Go.Proofs.YtdmeiiedbhfniaaDoor
namespace Rows

/-- THE TIED CARD OF 'laws.FnExactOrderStarts'. -/
def fnExactOrderStartsCard : Claim7 := { stood := { row := fnExactOrderStartsRow, standIns := [], harness := (true, "fc0c407165fc80da9fedd27298e7f8e756ccb088b645eda081fdc9598fbbf209"), looks := true }, kinds := [], alts := [], laidByText := true, laidKinds := [.data], laidTests := true, laidLooks := .later }
def FnExactOrderStartsCardSaid : Prop := Claim7.holds Tryd.pinned (.plain (OpenSpec.ofChange fnExactOrderStartsSpec)) fnExactOrderStartsCard

/-- THE TIED CARD OF 'laws.FnOrderStartsFirst'. -/
def fnOrderStartsFirstCard : Claim7 := { stood := { row := fnOrderStartsFirstRow, standIns := [], harness := (true, "fc0c407165fc80da9fedd27298e7f8e756ccb088b645eda081fdc9598fbbf209"), looks := true }, kinds := [], alts := [], laidByText := true, laidKinds := [.data], laidTests := true, laidLooks := .later }
def FnOrderStartsFirstCardSaid : Prop := Claim7.holds Tryd.pinned (.plain (OpenSpec.ofChange fnOrderStartsFirstSpec)) fnOrderStartsFirstCard

/-- THE TIED CARD OF 'laws.FnExactBestTime'. -/
def fnExactBestTimeCard : Claim7 := { stood := { row := fnExactBestTimeRow, standIns := [], harness := (true, "fc0c407165fc80da9fedd27298e7f8e756ccb088b645eda081fdc9598fbbf209"), looks := true }, kinds := [], alts := [], laidByText := true, laidKinds := [.data], laidTests := true, laidLooks := .later }
def FnExactBestTimeCardSaid : Prop := Claim7.holds Tryd.pinned (.plain (OpenSpec.ofChange fnExactBestTimeSpec)) fnExactBestTimeCard

/-- THE TIED CARD OF 'laws.FnExactReadyOrder'. -/
def fnExactReadyOrderCard : Claim7 := { stood := { row := fnExactReadyOrderRow, standIns := [], harness := (true, "fc0c407165fc80da9fedd27298e7f8e756ccb088b645eda081fdc9598fbbf209"), looks := true }, kinds := [], alts := [], laidByText := true, laidKinds := [.data], laidTests := true, laidLooks := .later }
def FnExactReadyOrderCardSaid : Prop := Claim7.holds Tryd.pinned (.plain (OpenSpec.ofChange fnExactReadyOrderSpec)) fnExactReadyOrderCard

/-- THE TIED CARD OF 'laws.FnExactBestOrder'. -/
def fnExactBestOrderCard : Claim7 := { stood := { row := fnExactBestOrderRow, standIns := [], harness := (true, "fc0c407165fc80da9fedd27298e7f8e756ccb088b645eda081fdc9598fbbf209"), looks := true }, kinds := [], alts := [], laidByText := true, laidKinds := [.data], laidTests := true, laidLooks := .later }
def FnExactBestOrderCardSaid : Prop := Claim7.holds Tryd.pinned (.plain (OpenSpec.ofChange fnExactBestOrderSpec)) fnExactBestOrderCard

/-- THE TIED CARD OF 'laws.FnBestOrderLeast'. -/
def fnBestOrderLeastCard : Claim7 := { stood := { row := fnBestOrderLeastRow, standIns := [], harness := (true, "fc0c407165fc80da9fedd27298e7f8e756ccb088b645eda081fdc9598fbbf209"), looks := true }, kinds := [], alts := [], laidByText := true, laidKinds := [.data], laidTests := true, laidLooks := .later }
def FnBestOrderLeastCardSaid : Prop := Claim7.holds Tryd.pinned (.plain (OpenSpec.ofChange fnBestOrderLeastSpec)) fnBestOrderLeastCard

/-- THE TIED CARD OF 'laws.FnHeadTimesMany'. -/
def fnHeadTimesManyCard : Claim7 := { stood := { row := fnHeadTimesManyRow, standIns := [], harness := (true, "fc0c407165fc80da9fedd27298e7f8e756ccb088b645eda081fdc9598fbbf209"), looks := true }, kinds := [], alts := [], laidByText := true, laidKinds := [.data], laidTests := true, laidLooks := .later }
def FnHeadTimesManyCardSaid : Prop := Claim7.holds Tryd.pinned (.plain (OpenSpec.ofChange fnHeadTimesManySpec)) fnHeadTimesManyCard

/-- THE TIED CARD OF 'laws.FnBestTimeMore'. -/
def fnBestTimeMoreCard : Claim7 := { stood := { row := fnBestTimeMoreRow, standIns := [], harness := (true, "fc0c407165fc80da9fedd27298e7f8e756ccb088b645eda081fdc9598fbbf209"), looks := true }, kinds := [], alts := [], laidByText := true, laidKinds := [.data], laidTests := true, laidLooks := .later }
def FnBestTimeMoreCardSaid : Prop := Claim7.holds Tryd.pinned (.plain (OpenSpec.ofChange fnBestTimeMoreSpec)) fnBestTimeMoreCard

/-- THE TIED CARD OF 'laws.FnBestTimeLess'. -/
def fnBestTimeLessCard : Claim7 := { stood := { row := fnBestTimeLessRow, standIns := [], harness := (true, "fc0c407165fc80da9fedd27298e7f8e756ccb088b645eda081fdc9598fbbf209"), looks := true }, kinds := [], alts := [], laidByText := true, laidKinds := [.data], laidTests := true, laidLooks := .later }
def FnBestTimeLessCardSaid : Prop := Claim7.holds Tryd.pinned (.plain (OpenSpec.ofChange fnBestTimeLessSpec)) fnBestTimeLessCard

/-- THE TIED CARD OF 'laws.FnReadyOrderLeft'. -/
def fnReadyOrderLeftCard : Claim7 := { stood := { row := fnReadyOrderLeftRow, standIns := [], harness := (true, "fc0c407165fc80da9fedd27298e7f8e756ccb088b645eda081fdc9598fbbf209"), looks := true }, kinds := [], alts := [], laidByText := true, laidKinds := [.data], laidTests := true, laidLooks := .later }
def FnReadyOrderLeftCardSaid : Prop := Claim7.holds Tryd.pinned (.plain (OpenSpec.ofChange fnReadyOrderLeftSpec)) fnReadyOrderLeftCard

/-- THE SECOND FORM's CARD OF 'laws.FnExactOrderStarts'. -/
def fnExactOrderStartsUptoCard : Claim7 := { stood := { row := fnExactOrderStartsUptoRow, standIns := [], harness := (true, "fc0c407165fc80da9fedd27298e7f8e756ccb088b645eda081fdc9598fbbf209"), looks := true }, kinds := [], alts := [], laidByText := true, laidKinds := [.data], laidTests := true, laidLooks := .later }
def FnExactOrderStartsUptoCardSaid : Prop := Claim7.holds Tryd.pinned (.plain (OpenSpec.upto fnExactOrderStartsSpec)) fnExactOrderStartsUptoCard

/-- THE SECOND FORM's CARD OF 'laws.FnOrderStartsFirst'. -/
def fnOrderStartsFirstUptoCard : Claim7 := { stood := { row := fnOrderStartsFirstUptoRow, standIns := [], harness := (true, "fc0c407165fc80da9fedd27298e7f8e756ccb088b645eda081fdc9598fbbf209"), looks := true }, kinds := [], alts := [], laidByText := true, laidKinds := [.data], laidTests := true, laidLooks := .later }
def FnOrderStartsFirstUptoCardSaid : Prop := Claim7.holds Tryd.pinned (.plain (OpenSpec.upto fnOrderStartsFirstSpec)) fnOrderStartsFirstUptoCard

/-- THE SECOND FORM's CARD OF 'laws.FnExactBestTime'. -/
def fnExactBestTimeUptoCard : Claim7 := { stood := { row := fnExactBestTimeUptoRow, standIns := [], harness := (true, "fc0c407165fc80da9fedd27298e7f8e756ccb088b645eda081fdc9598fbbf209"), looks := true }, kinds := [], alts := [], laidByText := true, laidKinds := [.data], laidTests := true, laidLooks := .later }
def FnExactBestTimeUptoCardSaid : Prop := Claim7.holds Tryd.pinned (.plain (OpenSpec.upto fnExactBestTimeSpec)) fnExactBestTimeUptoCard

/-- THE SECOND FORM's CARD OF 'laws.FnExactReadyOrder'. -/
def fnExactReadyOrderUptoCard : Claim7 := { stood := { row := fnExactReadyOrderUptoRow, standIns := [], harness := (true, "fc0c407165fc80da9fedd27298e7f8e756ccb088b645eda081fdc9598fbbf209"), looks := true }, kinds := [], alts := [], laidByText := true, laidKinds := [.data], laidTests := true, laidLooks := .later }
def FnExactReadyOrderUptoCardSaid : Prop := Claim7.holds Tryd.pinned (.plain (OpenSpec.upto fnExactReadyOrderSpec)) fnExactReadyOrderUptoCard

/-- THE SECOND FORM's CARD OF 'laws.FnExactBestOrder'. -/
def fnExactBestOrderUptoCard : Claim7 := { stood := { row := fnExactBestOrderUptoRow, standIns := [], harness := (true, "fc0c407165fc80da9fedd27298e7f8e756ccb088b645eda081fdc9598fbbf209"), looks := true }, kinds := [], alts := [], laidByText := true, laidKinds := [.data], laidTests := true, laidLooks := .later }
def FnExactBestOrderUptoCardSaid : Prop := Claim7.holds Tryd.pinned (.plain (OpenSpec.upto fnExactBestOrderSpec)) fnExactBestOrderUptoCard

/-- THE SECOND FORM's CARD OF 'laws.FnBestOrderLeast'. -/
def fnBestOrderLeastUptoCard : Claim7 := { stood := { row := fnBestOrderLeastUptoRow, standIns := [], harness := (true, "fc0c407165fc80da9fedd27298e7f8e756ccb088b645eda081fdc9598fbbf209"), looks := true }, kinds := [], alts := [], laidByText := true, laidKinds := [.data], laidTests := true, laidLooks := .later }
def FnBestOrderLeastUptoCardSaid : Prop := Claim7.holds Tryd.pinned (.plain (OpenSpec.upto fnBestOrderLeastSpec)) fnBestOrderLeastUptoCard

/-- THE SECOND FORM's CARD OF 'laws.FnHeadTimesMany'. -/
def fnHeadTimesManyUptoCard : Claim7 := { stood := { row := fnHeadTimesManyUptoRow, standIns := [], harness := (true, "fc0c407165fc80da9fedd27298e7f8e756ccb088b645eda081fdc9598fbbf209"), looks := true }, kinds := [], alts := [], laidByText := true, laidKinds := [.data], laidTests := true, laidLooks := .later }
def FnHeadTimesManyUptoCardSaid : Prop := Claim7.holds Tryd.pinned (.plain (OpenSpec.upto fnHeadTimesManySpec)) fnHeadTimesManyUptoCard

/-- THE SECOND FORM's CARD OF 'laws.FnBestTimeMore'. -/
def fnBestTimeMoreUptoCard : Claim7 := { stood := { row := fnBestTimeMoreUptoRow, standIns := [], harness := (true, "fc0c407165fc80da9fedd27298e7f8e756ccb088b645eda081fdc9598fbbf209"), looks := true }, kinds := [], alts := [], laidByText := true, laidKinds := [.data], laidTests := true, laidLooks := .later }
def FnBestTimeMoreUptoCardSaid : Prop := Claim7.holds Tryd.pinned (.plain (OpenSpec.upto fnBestTimeMoreSpec)) fnBestTimeMoreUptoCard

/-- THE SECOND FORM's CARD OF 'laws.FnBestTimeLess'. -/
def fnBestTimeLessUptoCard : Claim7 := { stood := { row := fnBestTimeLessUptoRow, standIns := [], harness := (true, "fc0c407165fc80da9fedd27298e7f8e756ccb088b645eda081fdc9598fbbf209"), looks := true }, kinds := [], alts := [], laidByText := true, laidKinds := [.data], laidTests := true, laidLooks := .later }
def FnBestTimeLessUptoCardSaid : Prop := Claim7.holds Tryd.pinned (.plain (OpenSpec.upto fnBestTimeLessSpec)) fnBestTimeLessUptoCard

/-- THE SECOND FORM's CARD OF 'laws.FnReadyOrderLeft'. -/
def fnReadyOrderLeftUptoCard : Claim7 := { stood := { row := fnReadyOrderLeftUptoRow, standIns := [], harness := (true, "fc0c407165fc80da9fedd27298e7f8e756ccb088b645eda081fdc9598fbbf209"), looks := true }, kinds := [], alts := [], laidByText := true, laidKinds := [.data], laidTests := true, laidLooks := .later }
def FnReadyOrderLeftUptoCardSaid : Prop := Claim7.holds Tryd.pinned (.plain (OpenSpec.upto fnReadyOrderLeftSpec)) fnReadyOrderLeftUptoCard
end Rows
end Go.Proofs.YtdmeiiedbhfniaaDoor
