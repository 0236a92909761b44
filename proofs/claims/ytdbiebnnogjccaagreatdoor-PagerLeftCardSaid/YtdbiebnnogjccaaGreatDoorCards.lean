/-
  DERIVED. GIVEN WITH THE SEED: THE CARDS: each row of YtdbiebnnogjccaaGreatDoorRows.lean that lists a variable, with what it lists TIED to the program's text (the seventh form; the later family's looks); each row that meets fmt, with fmt's text TOLD by the authors' own Lean function (tested against real Go, not proved from fmt's source: count such statements apart). THE CARD IS WHAT COUNTS. Prove the row's statement (the work); the ties are given (YtdbiebnnogjccaaGreatDoorTie.lean); close each card by the builder's one call (the guide's Derived/Test/ToyasCard.lean, 'card_holds'). Laid BY PROGRAM, IN A SANDBOX (cutbox-door.mjs). By AI agents, Wed Nov 11 2026. No macro, syntax, notation, axiom, sorry.
-/
import Derived.Test.YtdbiebnnogjccaaGreatDoorRows
import GoSem.ClaimSeven
namespace Go.Proofs.YtdbiebnnogjccaaGreatDoor
namespace Rows

/-- THE TIED CARD OF 'pannierlaw21.WalSafe'. -/
def walSafeCard : Claim7 := { stood := { row := walSafeRow, standIns := [], harness := (true, "5f64949a1fc7bd53fd0466b9a1e29499a73a71dc145caa692fbfb4fe4b527170"), looks := true }, kinds := [], alts := [], laidByText := true, laidKinds := [.data, .data, .handle, .sentinel, .sentinel, .sentinel, .sentinel, .sentinel, .sentinel, .sentinel, .sentinel, .pinned], laidTests := true, laidLooks := .later }
def WalSafeCardSaid : Prop := Claim7.holds Tryz.pinned (.plain (OpenSpec.ofChange walSafeSpec)) walSafeCard

/-- THE TIED CARD OF 'pannierlaw21.WalPlays'. -/
def walPlaysCard : Claim7 := { stood := { row := walPlaysRow, standIns := [], harness := (true, "5f64949a1fc7bd53fd0466b9a1e29499a73a71dc145caa692fbfb4fe4b527170"), looks := true }, kinds := [], alts := [], laidByText := true, laidKinds := [.data, .data, .handle, .sentinel, .sentinel, .sentinel, .sentinel, .sentinel, .sentinel, .sentinel, .sentinel, .pinned], laidTests := true, laidLooks := .later }
def WalPlaysCardSaid : Prop := Claim7.holds Tryz.pinned (.plain (OpenSpec.ofChange walPlaysSpec)) walPlaysCard

/-- THE TIED CARD OF 'pannierlaw22.PagerSafe'. -/
def pagerSafeCard : Claim7 := { stood := { row := pagerSafeRow, standIns := [], harness := (true, "5f64949a1fc7bd53fd0466b9a1e29499a73a71dc145caa692fbfb4fe4b527170"), looks := true }, kinds := [], alts := [], laidByText := true, laidKinds := [.data, .data, .handle, .sentinel, .sentinel, .sentinel, .sentinel, .sentinel, .sentinel, .sentinel, .sentinel, .sentinel, .pinned], laidTests := true, laidLooks := .later }
def PagerSafeCardSaid : Prop := Claim7.holds Tryz.pinned (.plain (OpenSpec.ofChange pagerSafeSpec)) pagerSafeCard

/-- THE TIED CARD OF 'pannierlaw22.PagerNone'. -/
def pagerNoneCard : Claim7 := { stood := { row := pagerNoneRow, standIns := [], harness := (true, "5f64949a1fc7bd53fd0466b9a1e29499a73a71dc145caa692fbfb4fe4b527170"), looks := true }, kinds := [], alts := [], laidByText := true, laidKinds := [.data, .data, .handle, .sentinel, .sentinel, .sentinel, .sentinel, .sentinel, .sentinel, .sentinel, .sentinel, .sentinel, .pinned], laidTests := true, laidLooks := .later }
def PagerNoneCardSaid : Prop := Claim7.holds Tryz.pinned (.plain (OpenSpec.ofChange pagerNoneSpec)) pagerNoneCard

/-- THE TIED CARD OF 'pannierlaw22.PagerLeft'. -/
def pagerLeftCard : Claim7 := { stood := { row := pagerLeftRow, standIns := [], harness := (true, "5f64949a1fc7bd53fd0466b9a1e29499a73a71dc145caa692fbfb4fe4b527170"), looks := true }, kinds := [], alts := [], laidByText := true, laidKinds := [.data, .data, .handle, .sentinel, .sentinel, .sentinel, .sentinel, .sentinel, .sentinel, .sentinel, .sentinel, .sentinel, .pinned], laidTests := true, laidLooks := .later }
def PagerLeftCardSaid : Prop := Claim7.holds Tryz.pinned (.plain (OpenSpec.ofChange pagerLeftSpec)) pagerLeftCard

/-- THE TIED CARD OF 'pannierlaw22.PagerPlays'. -/
def pagerPlaysCard : Claim7 := { stood := { row := pagerPlaysRow, standIns := [], harness := (true, "5f64949a1fc7bd53fd0466b9a1e29499a73a71dc145caa692fbfb4fe4b527170"), looks := true }, kinds := [], alts := [], laidByText := true, laidKinds := [.data, .data, .handle, .sentinel, .sentinel, .sentinel, .sentinel, .sentinel, .sentinel, .sentinel, .sentinel, .sentinel, .pinned], laidTests := true, laidLooks := .later }
def PagerPlaysCardSaid : Prop := Claim7.holds Tryz.pinned (.plain (OpenSpec.ofChange pagerPlaysSpec)) pagerPlaysCard

/-- THE TIED CARD OF 'pannierlaw24.ChainBack'. -/
def chainBackCard : Claim7 := { stood := { row := chainBackRow, standIns := [], harness := (true, "5f64949a1fc7bd53fd0466b9a1e29499a73a71dc145caa692fbfb4fe4b527170"), looks := true }, kinds := [], alts := [], laidByText := true, laidKinds := [.data, .data, .handle, .sentinel, .sentinel, .sentinel, .sentinel, .sentinel, .sentinel, .sentinel, .sentinel, .sentinel, .sentinel, .pinned], laidTests := true, laidLooks := .later }
def ChainBackCardSaid : Prop := Claim7.holds Tryz.pinned (.plain (OpenSpec.ofChange chainBackSpec)) chainBackCard

/-- THE TIED CARD OF 'pannierlaw24.ChainFull'. -/
def chainFullCard : Claim7 := { stood := { row := chainFullRow, standIns := [], harness := (true, "5f64949a1fc7bd53fd0466b9a1e29499a73a71dc145caa692fbfb4fe4b527170"), looks := true }, kinds := [], alts := [], laidByText := true, laidKinds := [.data, .data, .handle, .sentinel, .sentinel, .sentinel, .sentinel, .sentinel, .sentinel, .sentinel, .sentinel, .sentinel, .sentinel, .pinned], laidTests := true, laidLooks := .later }
def ChainFullCardSaid : Prop := Claim7.holds Tryz.pinned (.plain (OpenSpec.ofChange chainFullSpec)) chainFullCard

/-- THE SECOND FORM's CARD OF 'pannierlaw21.WalSafe'. -/
def walSafeUptoCard : Claim7 := { stood := { row := walSafeUptoRow, standIns := [], harness := (true, "5f64949a1fc7bd53fd0466b9a1e29499a73a71dc145caa692fbfb4fe4b527170"), looks := true }, kinds := [], alts := [], laidByText := true, laidKinds := [.data, .data, .handle, .sentinel, .sentinel, .sentinel, .sentinel, .sentinel, .sentinel, .sentinel, .sentinel, .pinned], laidTests := true, laidLooks := .later }
def WalSafeUptoCardSaid : Prop := Claim7.holds Tryz.pinned (.plain (OpenSpec.upto walSafeSpec)) walSafeUptoCard

/-- THE SECOND FORM's CARD OF 'pannierlaw21.WalPlays'. -/
def walPlaysUptoCard : Claim7 := { stood := { row := walPlaysUptoRow, standIns := [], harness := (true, "5f64949a1fc7bd53fd0466b9a1e29499a73a71dc145caa692fbfb4fe4b527170"), looks := true }, kinds := [], alts := [], laidByText := true, laidKinds := [.data, .data, .handle, .sentinel, .sentinel, .sentinel, .sentinel, .sentinel, .sentinel, .sentinel, .sentinel, .pinned], laidTests := true, laidLooks := .later }
def WalPlaysUptoCardSaid : Prop := Claim7.holds Tryz.pinned (.plain (OpenSpec.upto walPlaysSpec)) walPlaysUptoCard

/-- THE SECOND FORM's CARD OF 'pannierlaw22.PagerSafe'. -/
def pagerSafeUptoCard : Claim7 := { stood := { row := pagerSafeUptoRow, standIns := [], harness := (true, "5f64949a1fc7bd53fd0466b9a1e29499a73a71dc145caa692fbfb4fe4b527170"), looks := true }, kinds := [], alts := [], laidByText := true, laidKinds := [.data, .data, .handle, .sentinel, .sentinel, .sentinel, .sentinel, .sentinel, .sentinel, .sentinel, .sentinel, .sentinel, .pinned], laidTests := true, laidLooks := .later }
def PagerSafeUptoCardSaid : Prop := Claim7.holds Tryz.pinned (.plain (OpenSpec.upto pagerSafeSpec)) pagerSafeUptoCard

/-- THE SECOND FORM's CARD OF 'pannierlaw22.PagerNone'. -/
def pagerNoneUptoCard : Claim7 := { stood := { row := pagerNoneUptoRow, standIns := [], harness := (true, "5f64949a1fc7bd53fd0466b9a1e29499a73a71dc145caa692fbfb4fe4b527170"), looks := true }, kinds := [], alts := [], laidByText := true, laidKinds := [.data, .data, .handle, .sentinel, .sentinel, .sentinel, .sentinel, .sentinel, .sentinel, .sentinel, .sentinel, .sentinel, .pinned], laidTests := true, laidLooks := .later }
def PagerNoneUptoCardSaid : Prop := Claim7.holds Tryz.pinned (.plain (OpenSpec.upto pagerNoneSpec)) pagerNoneUptoCard

/-- THE SECOND FORM's CARD OF 'pannierlaw22.PagerLeft'. -/
def pagerLeftUptoCard : Claim7 := { stood := { row := pagerLeftUptoRow, standIns := [], harness := (true, "5f64949a1fc7bd53fd0466b9a1e29499a73a71dc145caa692fbfb4fe4b527170"), looks := true }, kinds := [], alts := [], laidByText := true, laidKinds := [.data, .data, .handle, .sentinel, .sentinel, .sentinel, .sentinel, .sentinel, .sentinel, .sentinel, .sentinel, .sentinel, .pinned], laidTests := true, laidLooks := .later }
def PagerLeftUptoCardSaid : Prop := Claim7.holds Tryz.pinned (.plain (OpenSpec.upto pagerLeftSpec)) pagerLeftUptoCard

/-- THE SECOND FORM's CARD OF 'pannierlaw22.PagerPlays'. -/
def pagerPlaysUptoCard : Claim7 := { stood := { row := pagerPlaysUptoRow, standIns := [], harness := (true, "5f64949a1fc7bd53fd0466b9a1e29499a73a71dc145caa692fbfb4fe4b527170"), looks := true }, kinds := [], alts := [], laidByText := true, laidKinds := [.data, .data, .handle, .sentinel, .sentinel, .sentinel, .sentinel, .sentinel, .sentinel, .sentinel, .sentinel, .sentinel, .pinned], laidTests := true, laidLooks := .later }
def PagerPlaysUptoCardSaid : Prop := Claim7.holds Tryz.pinned (.plain (OpenSpec.upto pagerPlaysSpec)) pagerPlaysUptoCard

/-- THE SECOND FORM's CARD OF 'pannierlaw24.ChainBack'. -/
def chainBackUptoCard : Claim7 := { stood := { row := chainBackUptoRow, standIns := [], harness := (true, "5f64949a1fc7bd53fd0466b9a1e29499a73a71dc145caa692fbfb4fe4b527170"), looks := true }, kinds := [], alts := [], laidByText := true, laidKinds := [.data, .data, .handle, .sentinel, .sentinel, .sentinel, .sentinel, .sentinel, .sentinel, .sentinel, .sentinel, .sentinel, .sentinel, .pinned], laidTests := true, laidLooks := .later }
def ChainBackUptoCardSaid : Prop := Claim7.holds Tryz.pinned (.plain (OpenSpec.upto chainBackSpec)) chainBackUptoCard

/-- THE SECOND FORM's CARD OF 'pannierlaw24.ChainFull'. -/
def chainFullUptoCard : Claim7 := { stood := { row := chainFullUptoRow, standIns := [], harness := (true, "5f64949a1fc7bd53fd0466b9a1e29499a73a71dc145caa692fbfb4fe4b527170"), looks := true }, kinds := [], alts := [], laidByText := true, laidKinds := [.data, .data, .handle, .sentinel, .sentinel, .sentinel, .sentinel, .sentinel, .sentinel, .sentinel, .sentinel, .sentinel, .sentinel, .pinned], laidTests := true, laidLooks := .later }
def ChainFullUptoCardSaid : Prop := Claim7.holds Tryz.pinned (.plain (OpenSpec.upto chainFullSpec)) chainFullUptoCard
end Rows
end Go.Proofs.YtdbiebnnogjccaaGreatDoor
