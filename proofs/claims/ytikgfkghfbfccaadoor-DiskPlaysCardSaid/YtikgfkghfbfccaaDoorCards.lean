/-
  DERIVED. GIVEN WITH THE SEED: THE CARDS: each row of YtikgfkghfbfccaaDoorRows.lean that lists a variable, with what it lists TIED to the program's text (the seventh form; the later family's looks); each row that meets fmt, with fmt's text TOLD by the authors' own Lean function (tested against real Go, not proved from fmt's source: count such statements apart). THE CARD IS WHAT COUNTS. Prove the row's statement (the work); the ties are given (YtikgfkghfbfccaaDoorTie.lean); close each card by the builder's one call (the guide's Derived/Test/ToyasCard.lean, 'card_holds'). Laid BY PROGRAM, IN A SANDBOX (cutbox-door.mjs). By AI agents, Wed Nov 11 2026. No macro, syntax, notation, axiom, sorry.
-/
import Derived.Test.YtikgfkghfbfccaaDoorRows
import GoSem.ClaimSeven
namespace Go.Proofs.YtikgfkghfbfccaaDoor
namespace Rows

/-- THE TIED CARD OF 'pannierlaw23.NodePlaces'. -/
def nodePlacesCard : Claim7 := { stood := { row := nodePlacesRow, standIns := [], harness := (true, "1233fc5d8e3cead2495636aa81a3fc1beb8bafd3e61ec2933aea72afd8345caa"), looks := true }, kinds := [], alts := [], laidByText := true, laidKinds := [.handle], laidTests := true, laidLooks := .later }
def NodePlacesCardSaid : Prop := Claim7.holds Tryd.pinned (.plain (OpenSpec.ofChange nodePlacesSpec)) nodePlacesCard

/-- THE TIED CARD OF 'pannierlaw19.DiskKeeps'. -/
def diskKeepsCard : Claim7 := { stood := { row := diskKeepsRow, standIns := [], harness := (true, "1233fc5d8e3cead2495636aa81a3fc1beb8bafd3e61ec2933aea72afd8345caa"), looks := true }, kinds := [], alts := [], laidByText := true, laidKinds := [.sentinel, .sentinel], laidTests := true, laidLooks := .later }
def DiskKeepsCardSaid : Prop := Claim7.holds Tryd.pinned (.plain (OpenSpec.ofChange diskKeepsSpec)) diskKeepsCard

/-- THE TIED CARD OF 'pannierlaw19.DiskOf'. -/
def diskOfCard : Claim7 := { stood := { row := diskOfRow, standIns := [], harness := (true, "1233fc5d8e3cead2495636aa81a3fc1beb8bafd3e61ec2933aea72afd8345caa"), looks := true }, kinds := [], alts := [], laidByText := true, laidKinds := [.sentinel, .sentinel], laidTests := true, laidLooks := .later }
def DiskOfCardSaid : Prop := Claim7.holds Tryd.pinned (.plain (OpenSpec.ofChange diskOfSpec)) diskOfCard

/-- THE TIED CARD OF 'pannierlaw19.DiskLast'. -/
def diskLastCard : Claim7 := { stood := { row := diskLastRow, standIns := [], harness := (true, "1233fc5d8e3cead2495636aa81a3fc1beb8bafd3e61ec2933aea72afd8345caa"), looks := true }, kinds := [], alts := [], laidByText := true, laidKinds := [.sentinel, .sentinel], laidTests := true, laidLooks := .later }
def DiskLastCardSaid : Prop := Claim7.holds Tryd.pinned (.plain (OpenSpec.ofChange diskLastSpec)) diskLastCard

/-- THE TIED CARD OF 'pannierlaw19.DiskPlays'. -/
def diskPlaysCard : Claim7 := { stood := { row := diskPlaysRow, standIns := [], harness := (true, "1233fc5d8e3cead2495636aa81a3fc1beb8bafd3e61ec2933aea72afd8345caa"), looks := true }, kinds := [], alts := [], laidByText := true, laidKinds := [.sentinel, .sentinel], laidTests := true, laidLooks := .later }
def DiskPlaysCardSaid : Prop := Claim7.holds Tryd.pinned (.plain (OpenSpec.ofChange diskPlaysSpec)) diskPlaysCard

/-- THE TIED CARD OF 'pannierlaw19.DiskNone'. -/
def diskNoneCard : Claim7 := { stood := { row := diskNoneRow, standIns := [], harness := (true, "1233fc5d8e3cead2495636aa81a3fc1beb8bafd3e61ec2933aea72afd8345caa"), looks := true }, kinds := [], alts := [], laidByText := true, laidKinds := [.sentinel, .sentinel], laidTests := true, laidLooks := .later }
def DiskNoneCardSaid : Prop := Claim7.holds Tryd.pinned (.plain (OpenSpec.ofChange diskNoneSpec)) diskNoneCard

/-- THE SECOND FORM's CARD OF 'pannierlaw23.NodePlaces'. -/
def nodePlacesUptoCard : Claim7 := { stood := { row := nodePlacesUptoRow, standIns := [], harness := (true, "1233fc5d8e3cead2495636aa81a3fc1beb8bafd3e61ec2933aea72afd8345caa"), looks := true }, kinds := [], alts := [], laidByText := true, laidKinds := [.handle], laidTests := true, laidLooks := .later }
def NodePlacesUptoCardSaid : Prop := Claim7.holds Tryd.pinned (.plain (OpenSpec.upto nodePlacesSpec)) nodePlacesUptoCard

/-- THE SECOND FORM's CARD OF 'pannierlaw19.DiskKeeps'. -/
def diskKeepsUptoCard : Claim7 := { stood := { row := diskKeepsUptoRow, standIns := [], harness := (true, "1233fc5d8e3cead2495636aa81a3fc1beb8bafd3e61ec2933aea72afd8345caa"), looks := true }, kinds := [], alts := [], laidByText := true, laidKinds := [.sentinel, .sentinel], laidTests := true, laidLooks := .later }
def DiskKeepsUptoCardSaid : Prop := Claim7.holds Tryd.pinned (.plain (OpenSpec.upto diskKeepsSpec)) diskKeepsUptoCard

/-- THE SECOND FORM's CARD OF 'pannierlaw19.DiskOf'. -/
def diskOfUptoCard : Claim7 := { stood := { row := diskOfUptoRow, standIns := [], harness := (true, "1233fc5d8e3cead2495636aa81a3fc1beb8bafd3e61ec2933aea72afd8345caa"), looks := true }, kinds := [], alts := [], laidByText := true, laidKinds := [.sentinel, .sentinel], laidTests := true, laidLooks := .later }
def DiskOfUptoCardSaid : Prop := Claim7.holds Tryd.pinned (.plain (OpenSpec.upto diskOfSpec)) diskOfUptoCard

/-- THE SECOND FORM's CARD OF 'pannierlaw19.DiskLast'. -/
def diskLastUptoCard : Claim7 := { stood := { row := diskLastUptoRow, standIns := [], harness := (true, "1233fc5d8e3cead2495636aa81a3fc1beb8bafd3e61ec2933aea72afd8345caa"), looks := true }, kinds := [], alts := [], laidByText := true, laidKinds := [.sentinel, .sentinel], laidTests := true, laidLooks := .later }
def DiskLastUptoCardSaid : Prop := Claim7.holds Tryd.pinned (.plain (OpenSpec.upto diskLastSpec)) diskLastUptoCard

/-- THE SECOND FORM's CARD OF 'pannierlaw19.DiskPlays'. -/
def diskPlaysUptoCard : Claim7 := { stood := { row := diskPlaysUptoRow, standIns := [], harness := (true, "1233fc5d8e3cead2495636aa81a3fc1beb8bafd3e61ec2933aea72afd8345caa"), looks := true }, kinds := [], alts := [], laidByText := true, laidKinds := [.sentinel, .sentinel], laidTests := true, laidLooks := .later }
def DiskPlaysUptoCardSaid : Prop := Claim7.holds Tryd.pinned (.plain (OpenSpec.upto diskPlaysSpec)) diskPlaysUptoCard

/-- THE SECOND FORM's CARD OF 'pannierlaw19.DiskNone'. -/
def diskNoneUptoCard : Claim7 := { stood := { row := diskNoneUptoRow, standIns := [], harness := (true, "1233fc5d8e3cead2495636aa81a3fc1beb8bafd3e61ec2933aea72afd8345caa"), looks := true }, kinds := [], alts := [], laidByText := true, laidKinds := [.sentinel, .sentinel], laidTests := true, laidLooks := .later }
def DiskNoneUptoCardSaid : Prop := Claim7.holds Tryd.pinned (.plain (OpenSpec.upto diskNoneSpec)) diskNoneUptoCard
end Rows
end Go.Proofs.YtikgfkghfbfccaaDoor
