/-
  DERIVED. GIVEN WITH THE SEED: THE CARDS: each row of YtlpdanghcdajmaaDoorRows.lean that lists a variable, with what it lists TIED to the program's text (the seventh form; the later family's looks); each row that meets fmt, with fmt's text TOLD by the authors' own Lean function (tested against real Go, not proved from fmt's source: count such statements apart). THE CARD IS WHAT COUNTS. Prove the row's statement (the work); the ties are given (YtlpdanghcdajmaaDoorTie.lean); close each card by the builder's one call (the guide's Derived/Test/ToyasCard.lean, 'card_holds'). Laid BY PROGRAM, IN A SANDBOX (cutbox-door.mjs). By AI agents, Wed Nov 11 2026. No macro, syntax, notation, axiom, sorry.
-/
import Derived.Test.YtlpdanghcdajmaaDoorRows
import GoSem.ClaimSeven
namespace Go.Proofs.YtlpdanghcdajmaaDoor
namespace Rows

/-- THE TIED CARD OF 'pannierlaw15.CrcSums'. -/
def crcSumsCard : Claim7 := { stood := { row := crcSumsRow, standIns := [], harness := (true, "00bff2db222a3a60b3767a2964255783f0b0662b861a34854ecec7bb1c56dd2c"), looks := true }, kinds := [], alts := [], laidByText := true, laidKinds := [.data], laidTests := true, laidLooks := .later }
def CrcSumsCardSaid : Prop := Claim7.holds Tryd.pinned (.plain (OpenSpec.ofChange crcSumsSpec)) crcSumsCard

/-- THE TIED CARD OF 'pannierlaw15.CrcJoins'. -/
def crcJoinsCard : Claim7 := { stood := { row := crcJoinsRow, standIns := [], harness := (true, "00bff2db222a3a60b3767a2964255783f0b0662b861a34854ecec7bb1c56dd2c"), looks := true }, kinds := [], alts := [], laidByText := true, laidKinds := [.data], laidTests := true, laidLooks := .later }
def CrcJoinsCardSaid : Prop := Claim7.holds Tryd.pinned (.plain (OpenSpec.ofChange crcJoinsSpec)) crcJoinsCard

/-- THE TIED CARD OF 'pannierlaw15.CrcTurned'. -/
def crcTurnedCard : Claim7 := { stood := { row := crcTurnedRow, standIns := [], harness := (true, "00bff2db222a3a60b3767a2964255783f0b0662b861a34854ecec7bb1c56dd2c"), looks := true }, kinds := [], alts := [], laidByText := true, laidKinds := [.data], laidTests := true, laidLooks := .later }
def CrcTurnedCardSaid : Prop := Claim7.holds Tryd.pinned (.plain (OpenSpec.ofChange crcTurnedSpec)) crcTurnedCard

/-- THE TIED CARD OF 'pannierlaw16.PackMakes'. -/
def packMakesCard : Claim7 := { stood := { row := packMakesRow, standIns := [], harness := (true, "00bff2db222a3a60b3767a2964255783f0b0662b861a34854ecec7bb1c56dd2c"), looks := true }, kinds := [], alts := [], laidByText := true, laidKinds := [.handle], laidTests := true, laidLooks := .later }
def PackMakesCardSaid : Prop := Claim7.holds Tryd.pinned (.plain (OpenSpec.ofChange packMakesSpec)) packMakesCard

/-- THE TIED CARD OF 'pannierlaw16.PackTakes'. -/
def packTakesCard : Claim7 := { stood := { row := packTakesRow, standIns := [], harness := (true, "00bff2db222a3a60b3767a2964255783f0b0662b861a34854ecec7bb1c56dd2c"), looks := true }, kinds := [], alts := [], laidByText := true, laidKinds := [.handle], laidTests := true, laidLooks := .later }
def PackTakesCardSaid : Prop := Claim7.holds Tryd.pinned (.plain (OpenSpec.ofChange packTakesSpec)) packTakesCard

/-- THE TIED CARD OF 'pannierlaw16.PackBack'. -/
def packBackCard : Claim7 := { stood := { row := packBackRow, standIns := [], harness := (true, "00bff2db222a3a60b3767a2964255783f0b0662b861a34854ecec7bb1c56dd2c"), looks := true }, kinds := [], alts := [], laidByText := true, laidKinds := [.handle], laidTests := true, laidLooks := .later }
def PackBackCardSaid : Prop := Claim7.holds Tryd.pinned (.plain (OpenSpec.ofChange packBackSpec)) packBackCard

/-- THE TIED CARD OF 'pannierlaw16.PackApart'. -/
def packApartCard : Claim7 := { stood := { row := packApartRow, standIns := [], harness := (true, "00bff2db222a3a60b3767a2964255783f0b0662b861a34854ecec7bb1c56dd2c"), looks := true }, kinds := [], alts := [], laidByText := true, laidKinds := [.handle], laidTests := true, laidLooks := .later }
def PackApartCardSaid : Prop := Claim7.holds Tryd.pinned (.plain (OpenSpec.ofChange packApartSpec)) packApartCard

/-- THE TIED CARD OF 'pannierlaw17.EditCodes'. -/
def editCodesCard : Claim7 := { stood := { row := editCodesRow, standIns := [], harness := (true, "00bff2db222a3a60b3767a2964255783f0b0662b861a34854ecec7bb1c56dd2c"), looks := true }, kinds := [], alts := [], laidByText := true, laidKinds := [.handle], laidTests := true, laidLooks := .later }
def EditCodesCardSaid : Prop := Claim7.holds Tryd.pinned (.plain (OpenSpec.ofChange editCodesSpec)) editCodesCard

/-- THE TIED CARD OF 'pannierlaw17.EditBack'. -/
def editBackCard : Claim7 := { stood := { row := editBackRow, standIns := [], harness := (true, "00bff2db222a3a60b3767a2964255783f0b0662b861a34854ecec7bb1c56dd2c"), looks := true }, kinds := [], alts := [], laidByText := true, laidKinds := [.handle], laidTests := true, laidLooks := .later }
def EditBackCardSaid : Prop := Claim7.holds Tryd.pinned (.plain (OpenSpec.ofChange editBackSpec)) editBackCard

/-- THE TIED CARD OF 'pannierlaw17.EditApart'. -/
def editApartCard : Claim7 := { stood := { row := editApartRow, standIns := [], harness := (true, "00bff2db222a3a60b3767a2964255783f0b0662b861a34854ecec7bb1c56dd2c"), looks := true }, kinds := [], alts := [], laidByText := true, laidKinds := [.handle], laidTests := true, laidLooks := .later }
def EditApartCardSaid : Prop := Claim7.holds Tryd.pinned (.plain (OpenSpec.ofChange editApartSpec)) editApartCard

/-- THE TIED CARD OF 'pannierlaw23.NodeCodes'. -/
def nodeCodesCard : Claim7 := { stood := { row := nodeCodesRow, standIns := [], harness := (true, "00bff2db222a3a60b3767a2964255783f0b0662b861a34854ecec7bb1c56dd2c"), looks := true }, kinds := [], alts := [], laidByText := true, laidKinds := [.handle], laidTests := true, laidLooks := .later }
def NodeCodesCardSaid : Prop := Claim7.holds Tryd.pinned (.plain (OpenSpec.ofChange nodeCodesSpec)) nodeCodesCard

/-- THE TIED CARD OF 'pannierlaw23.NodeFinds'. -/
def nodeFindsCard : Claim7 := { stood := { row := nodeFindsRow, standIns := [], harness := (true, "00bff2db222a3a60b3767a2964255783f0b0662b861a34854ecec7bb1c56dd2c"), looks := true }, kinds := [], alts := [], laidByText := true, laidKinds := [.handle], laidTests := true, laidLooks := .later }
def NodeFindsCardSaid : Prop := Claim7.holds Tryd.pinned (.plain (OpenSpec.ofChange nodeFindsSpec)) nodeFindsCard

/-- THE TIED CARD OF 'pannierlaw23.NodeBack'. -/
def nodeBackCard : Claim7 := { stood := { row := nodeBackRow, standIns := [], harness := (true, "00bff2db222a3a60b3767a2964255783f0b0662b861a34854ecec7bb1c56dd2c"), looks := true }, kinds := [], alts := [], laidByText := true, laidKinds := [.handle], laidTests := true, laidLooks := .later }
def NodeBackCardSaid : Prop := Claim7.holds Tryd.pinned (.plain (OpenSpec.ofChange nodeBackSpec)) nodeBackCard

/-- THE TIED CARD OF 'pannierlaw23.NodePlaces'. -/
def nodePlacesCard : Claim7 := { stood := { row := nodePlacesRow, standIns := [], harness := (true, "00bff2db222a3a60b3767a2964255783f0b0662b861a34854ecec7bb1c56dd2c"), looks := true }, kinds := [], alts := [], laidByText := true, laidKinds := [.handle], laidTests := true, laidLooks := .later }
def NodePlacesCardSaid : Prop := Claim7.holds Tryd.pinned (.plain (OpenSpec.ofChange nodePlacesSpec)) nodePlacesCard

/-- THE SECOND FORM's CARD OF 'pannierlaw15.CrcSums'. -/
def crcSumsUptoCard : Claim7 := { stood := { row := crcSumsUptoRow, standIns := [], harness := (true, "00bff2db222a3a60b3767a2964255783f0b0662b861a34854ecec7bb1c56dd2c"), looks := true }, kinds := [], alts := [], laidByText := true, laidKinds := [.data], laidTests := true, laidLooks := .later }
def CrcSumsUptoCardSaid : Prop := Claim7.holds Tryd.pinned (.plain (OpenSpec.upto crcSumsSpec)) crcSumsUptoCard

/-- THE SECOND FORM's CARD OF 'pannierlaw15.CrcJoins'. -/
def crcJoinsUptoCard : Claim7 := { stood := { row := crcJoinsUptoRow, standIns := [], harness := (true, "00bff2db222a3a60b3767a2964255783f0b0662b861a34854ecec7bb1c56dd2c"), looks := true }, kinds := [], alts := [], laidByText := true, laidKinds := [.data], laidTests := true, laidLooks := .later }
def CrcJoinsUptoCardSaid : Prop := Claim7.holds Tryd.pinned (.plain (OpenSpec.upto crcJoinsSpec)) crcJoinsUptoCard

/-- THE SECOND FORM's CARD OF 'pannierlaw15.CrcTurned'. -/
def crcTurnedUptoCard : Claim7 := { stood := { row := crcTurnedUptoRow, standIns := [], harness := (true, "00bff2db222a3a60b3767a2964255783f0b0662b861a34854ecec7bb1c56dd2c"), looks := true }, kinds := [], alts := [], laidByText := true, laidKinds := [.data], laidTests := true, laidLooks := .later }
def CrcTurnedUptoCardSaid : Prop := Claim7.holds Tryd.pinned (.plain (OpenSpec.upto crcTurnedSpec)) crcTurnedUptoCard

/-- THE SECOND FORM's CARD OF 'pannierlaw16.PackMakes'. -/
def packMakesUptoCard : Claim7 := { stood := { row := packMakesUptoRow, standIns := [], harness := (true, "00bff2db222a3a60b3767a2964255783f0b0662b861a34854ecec7bb1c56dd2c"), looks := true }, kinds := [], alts := [], laidByText := true, laidKinds := [.handle], laidTests := true, laidLooks := .later }
def PackMakesUptoCardSaid : Prop := Claim7.holds Tryd.pinned (.plain (OpenSpec.upto packMakesSpec)) packMakesUptoCard

/-- THE SECOND FORM's CARD OF 'pannierlaw16.PackTakes'. -/
def packTakesUptoCard : Claim7 := { stood := { row := packTakesUptoRow, standIns := [], harness := (true, "00bff2db222a3a60b3767a2964255783f0b0662b861a34854ecec7bb1c56dd2c"), looks := true }, kinds := [], alts := [], laidByText := true, laidKinds := [.handle], laidTests := true, laidLooks := .later }
def PackTakesUptoCardSaid : Prop := Claim7.holds Tryd.pinned (.plain (OpenSpec.upto packTakesSpec)) packTakesUptoCard

/-- THE SECOND FORM's CARD OF 'pannierlaw16.PackBack'. -/
def packBackUptoCard : Claim7 := { stood := { row := packBackUptoRow, standIns := [], harness := (true, "00bff2db222a3a60b3767a2964255783f0b0662b861a34854ecec7bb1c56dd2c"), looks := true }, kinds := [], alts := [], laidByText := true, laidKinds := [.handle], laidTests := true, laidLooks := .later }
def PackBackUptoCardSaid : Prop := Claim7.holds Tryd.pinned (.plain (OpenSpec.upto packBackSpec)) packBackUptoCard

/-- THE SECOND FORM's CARD OF 'pannierlaw16.PackApart'. -/
def packApartUptoCard : Claim7 := { stood := { row := packApartUptoRow, standIns := [], harness := (true, "00bff2db222a3a60b3767a2964255783f0b0662b861a34854ecec7bb1c56dd2c"), looks := true }, kinds := [], alts := [], laidByText := true, laidKinds := [.handle], laidTests := true, laidLooks := .later }
def PackApartUptoCardSaid : Prop := Claim7.holds Tryd.pinned (.plain (OpenSpec.upto packApartSpec)) packApartUptoCard

/-- THE SECOND FORM's CARD OF 'pannierlaw17.EditCodes'. -/
def editCodesUptoCard : Claim7 := { stood := { row := editCodesUptoRow, standIns := [], harness := (true, "00bff2db222a3a60b3767a2964255783f0b0662b861a34854ecec7bb1c56dd2c"), looks := true }, kinds := [], alts := [], laidByText := true, laidKinds := [.handle], laidTests := true, laidLooks := .later }
def EditCodesUptoCardSaid : Prop := Claim7.holds Tryd.pinned (.plain (OpenSpec.upto editCodesSpec)) editCodesUptoCard

/-- THE SECOND FORM's CARD OF 'pannierlaw17.EditBack'. -/
def editBackUptoCard : Claim7 := { stood := { row := editBackUptoRow, standIns := [], harness := (true, "00bff2db222a3a60b3767a2964255783f0b0662b861a34854ecec7bb1c56dd2c"), looks := true }, kinds := [], alts := [], laidByText := true, laidKinds := [.handle], laidTests := true, laidLooks := .later }
def EditBackUptoCardSaid : Prop := Claim7.holds Tryd.pinned (.plain (OpenSpec.upto editBackSpec)) editBackUptoCard

/-- THE SECOND FORM's CARD OF 'pannierlaw17.EditApart'. -/
def editApartUptoCard : Claim7 := { stood := { row := editApartUptoRow, standIns := [], harness := (true, "00bff2db222a3a60b3767a2964255783f0b0662b861a34854ecec7bb1c56dd2c"), looks := true }, kinds := [], alts := [], laidByText := true, laidKinds := [.handle], laidTests := true, laidLooks := .later }
def EditApartUptoCardSaid : Prop := Claim7.holds Tryd.pinned (.plain (OpenSpec.upto editApartSpec)) editApartUptoCard

/-- THE SECOND FORM's CARD OF 'pannierlaw23.NodeCodes'. -/
def nodeCodesUptoCard : Claim7 := { stood := { row := nodeCodesUptoRow, standIns := [], harness := (true, "00bff2db222a3a60b3767a2964255783f0b0662b861a34854ecec7bb1c56dd2c"), looks := true }, kinds := [], alts := [], laidByText := true, laidKinds := [.handle], laidTests := true, laidLooks := .later }
def NodeCodesUptoCardSaid : Prop := Claim7.holds Tryd.pinned (.plain (OpenSpec.upto nodeCodesSpec)) nodeCodesUptoCard

/-- THE SECOND FORM's CARD OF 'pannierlaw23.NodeFinds'. -/
def nodeFindsUptoCard : Claim7 := { stood := { row := nodeFindsUptoRow, standIns := [], harness := (true, "00bff2db222a3a60b3767a2964255783f0b0662b861a34854ecec7bb1c56dd2c"), looks := true }, kinds := [], alts := [], laidByText := true, laidKinds := [.handle], laidTests := true, laidLooks := .later }
def NodeFindsUptoCardSaid : Prop := Claim7.holds Tryd.pinned (.plain (OpenSpec.upto nodeFindsSpec)) nodeFindsUptoCard

/-- THE SECOND FORM's CARD OF 'pannierlaw23.NodeBack'. -/
def nodeBackUptoCard : Claim7 := { stood := { row := nodeBackUptoRow, standIns := [], harness := (true, "00bff2db222a3a60b3767a2964255783f0b0662b861a34854ecec7bb1c56dd2c"), looks := true }, kinds := [], alts := [], laidByText := true, laidKinds := [.handle], laidTests := true, laidLooks := .later }
def NodeBackUptoCardSaid : Prop := Claim7.holds Tryd.pinned (.plain (OpenSpec.upto nodeBackSpec)) nodeBackUptoCard

/-- THE SECOND FORM's CARD OF 'pannierlaw23.NodePlaces'. -/
def nodePlacesUptoCard : Claim7 := { stood := { row := nodePlacesUptoRow, standIns := [], harness := (true, "00bff2db222a3a60b3767a2964255783f0b0662b861a34854ecec7bb1c56dd2c"), looks := true }, kinds := [], alts := [], laidByText := true, laidKinds := [.handle], laidTests := true, laidLooks := .later }
def NodePlacesUptoCardSaid : Prop := Claim7.holds Tryd.pinned (.plain (OpenSpec.upto nodePlacesSpec)) nodePlacesUptoCard
end Rows
end Go.Proofs.YtlpdanghcdajmaaDoor
