/-
  NARROWER THAN 'FOR EVERY INPUT', by the rows' own cells (each row's printed sentence says how): NodePlaces: laid · DiskKeeps: laid · DiskOf: laid · DiskLast: laid · DiskPlays: laid · DiskNone: laid.
  DERIVED. THE GIVEN ROWS OF THIS SEAT. 6 by the template 'for every input the law returns true; each argument reads behind the call as it read before'; 0 by the template 'total and deterministic' (their statements: YtikgfkghfbfccaaDoorTotals.lean).
  GIVEN WITH THE SEED: the statements are not yours to turn. If you find one false, say at which input.
  Laid BY PROGRAM, IN A SANDBOX (cutbox-rows.mjs): the forced cells as the released guide's own fill.sh prints them over the translation 9d5a019171311545… (all of the seat's roots in one cut). By AI agents, Wed Nov 11 2026. No macro, syntax, notation, axiom, sorry.
-/
import Derived.Test.YtikgfkghfbfccaaDoorChecked
import GoSem.Claim
import GoSem.ClaimJoined
import GoSem.ClaimMapViews
import Derived.JoinedTies
import Derived.KernelRfl
namespace Go.Proofs.YtikgfkghfbfccaaDoor
/- THE CELL 'sum', in the pinned program and in every row, IS THE sha256 OF THE DUMP (.gsa) THAT YtikgfkghfbfccaaDoorProg.lean LOADS. Nothing in Lean hashes anything: it is a label: what it is worth is what the hold of that sum in a sandbox is worth. -/
noncomputable def Tryd.pinned : Pinned := { name := "ytikgfkghfbfccaadoor", sum := "9d5a0191713115450acb0909d646e1e8d210688ee31aa8554d57c84f79af3921", checked := Tryd.checked }
namespace Rows
def none {H : Type} : Left H := { results := [], args := [] }

/- WHAT THE LISTED PACKAGE-LEVEL VARIABLES READ AS WHEN THE CALL BEGINS. Each datum BY PROGRAM (the guide's laid-datum.mjs) off the statement by which the dump's own 'gosem.cut.vars' lays the variable. In a bare row this is a premise. The card (YtikgfkghfbfccaaDoorCards.lean) ties it to the program's text. -/
def laid_errors_errorType {H : Type} : DataW H := .iface "internal/reflectlite.rtype" (.agg [.ptr (.lit (.string [101, 114, 114, 111, 114]))])
def laid_pannier_disk_errDead {H : Type} : DataW H := .iface "*errors.errorString" (.ptr (.agg [.lit (.string [105, 116, 32, 99, 114, 97, 115, 104, 101, 100])]))
def laid_pannier_disk_errArg {H : Type} : DataW H := .iface "*errors.errorString" (.ptr (.agg [.lit (.string [110, 111, 32, 115, 117, 99, 104, 32, 115, 101, 99, 116, 111, 114])]))

/-- 'pannierlaw23.NodePlaces': WHATEVER THE INPUT: true; the input reads as it did. -/
def nodePlacesSpec : ChangeSpec := { name := "nodePlaces", fn := fun _ => fun
  | [d1, d2] => { results := [.lit (.bool true)], args := [d1, d2] }
  | _ => none }
def nodePlacesRow : OpenClaim := { program := "ytikgfkghfbfccaadoor", sum := "9d5a0191713115450acb0909d646e1e8d210688ee31aa8554d57c84f79af3921", func := "pannier/pannierlaw23.NodePlaces", spec := "nodePlaces", inPlace := ["internal/reflectlite.ValueOf", "(internal/reflectlite.Value).Type", "(internal/reflectlite.Value).IsNil", "internal/reflectlite.TypeOf", "(internal/reflectlite.Value).Elem", "(internal/reflectlite.Value).Set"], unfollowed := true, recurses := true, named := ["errors.errorType"], apart := false, laid := [("errors.errorType", laid_errors_errorType)] }
def NodePlacesSaid : Prop := nodePlacesRow.holds Tryd.pinned (OpenSpec.ofChange nodePlacesSpec)

/-- ITS FALSE NEIGHBOUR: 'it returns false'. Refute it at one input. -/
def nodePlacesWrong : ChangeSpec := { name := "nodePlaces", fn := fun _ => fun
  | [d1, d2] => { results := [.lit (.bool false)], args := [d1, d2] }
  | _ => none }
def NodePlacesWrongFalsely : Prop := nodePlacesRow.holds Tryd.pinned (OpenSpec.ofChange nodePlacesWrong)

/-- 'pannierlaw19.DiskKeeps': WHATEVER THE INPUT: true; the input reads as it did. -/
def diskKeepsSpec : ChangeSpec := { name := "diskKeeps", fn := fun _ => fun
  | [d1, d2, d3] => { results := [.lit (.bool true)], args := [d1, d2, d3] }
  | _ => none }
def diskKeepsRow : OpenClaim := { program := "ytikgfkghfbfccaadoor", sum := "9d5a0191713115450acb0909d646e1e8d210688ee31aa8554d57c84f79af3921", func := "pannier/pannierlaw19.DiskKeeps", spec := "diskKeeps", inPlace := ["internal/reflectlite.TypeOf", "internal/abi.NoEscape", "internal/bytealg.MakeNoZero"], unfollowed := true, recurses := true, named := ["pannier/disk.errArg", "pannier/disk.errDead"], apart := false, laid := [("pannier/disk.errDead", laid_pannier_disk_errDead), ("pannier/disk.errArg", laid_pannier_disk_errArg)] }
def DiskKeepsSaid : Prop := diskKeepsRow.holds Tryd.pinned (OpenSpec.ofChange diskKeepsSpec)

/-- ITS FALSE NEIGHBOUR: 'it returns false'. Refute it at one input. -/
def diskKeepsWrong : ChangeSpec := { name := "diskKeeps", fn := fun _ => fun
  | [d1, d2, d3] => { results := [.lit (.bool false)], args := [d1, d2, d3] }
  | _ => none }
def DiskKeepsWrongFalsely : Prop := diskKeepsRow.holds Tryd.pinned (OpenSpec.ofChange diskKeepsWrong)

/-- 'pannierlaw19.DiskOf': WHATEVER THE INPUT: true; the input reads as it did. -/
def diskOfSpec : ChangeSpec := { name := "diskOf", fn := fun _ => fun
  | [d] => { results := [.lit (.bool true)], args := [d] }
  | _ => none }
def diskOfRow : OpenClaim := { program := "ytikgfkghfbfccaadoor", sum := "9d5a0191713115450acb0909d646e1e8d210688ee31aa8554d57c84f79af3921", func := "pannier/pannierlaw19.DiskOf", spec := "diskOf", inPlace := ["internal/reflectlite.TypeOf", "internal/abi.NoEscape", "internal/bytealg.MakeNoZero"], unfollowed := true, recurses := true, named := ["pannier/disk.errArg", "pannier/disk.errDead"], apart := false, laid := [("pannier/disk.errDead", laid_pannier_disk_errDead), ("pannier/disk.errArg", laid_pannier_disk_errArg)] }
def DiskOfSaid : Prop := diskOfRow.holds Tryd.pinned (OpenSpec.ofChange diskOfSpec)

/-- ITS FALSE NEIGHBOUR: 'it returns false'. Refute it at one input. -/
def diskOfWrong : ChangeSpec := { name := "diskOf", fn := fun _ => fun
  | [d] => { results := [.lit (.bool false)], args := [d] }
  | _ => none }
def DiskOfWrongFalsely : Prop := diskOfRow.holds Tryd.pinned (OpenSpec.ofChange diskOfWrong)

/-- 'pannierlaw19.DiskLast': WHATEVER THE INPUT: true; the input reads as it did. -/
def diskLastSpec : ChangeSpec := { name := "diskLast", fn := fun _ => fun
  | [d1, d2] => { results := [.lit (.bool true)], args := [d1, d2] }
  | _ => none }
def diskLastRow : OpenClaim := { program := "ytikgfkghfbfccaadoor", sum := "9d5a0191713115450acb0909d646e1e8d210688ee31aa8554d57c84f79af3921", func := "pannier/pannierlaw19.DiskLast", spec := "diskLast", inPlace := ["internal/reflectlite.TypeOf", "internal/abi.NoEscape", "internal/bytealg.MakeNoZero"], unfollowed := true, recurses := true, named := ["pannier/disk.errArg", "pannier/disk.errDead"], apart := false, laid := [("pannier/disk.errDead", laid_pannier_disk_errDead), ("pannier/disk.errArg", laid_pannier_disk_errArg)] }
def DiskLastSaid : Prop := diskLastRow.holds Tryd.pinned (OpenSpec.ofChange diskLastSpec)

/-- ITS FALSE NEIGHBOUR: 'it returns false'. Refute it at one input. -/
def diskLastWrong : ChangeSpec := { name := "diskLast", fn := fun _ => fun
  | [d1, d2] => { results := [.lit (.bool false)], args := [d1, d2] }
  | _ => none }
def DiskLastWrongFalsely : Prop := diskLastRow.holds Tryd.pinned (OpenSpec.ofChange diskLastWrong)

/-- 'pannierlaw19.DiskPlays': WHATEVER THE INPUT: true; the input reads as it did. -/
def diskPlaysSpec : ChangeSpec := { name := "diskPlays", fn := fun _ => fun
  | [d1, d2] => { results := [.lit (.bool true)], args := [d1, d2] }
  | _ => none }
def diskPlaysRow : OpenClaim := { program := "ytikgfkghfbfccaadoor", sum := "9d5a0191713115450acb0909d646e1e8d210688ee31aa8554d57c84f79af3921", func := "pannier/pannierlaw19.DiskPlays", spec := "diskPlays", inPlace := ["internal/reflectlite.TypeOf", "internal/abi.NoEscape", "internal/bytealg.MakeNoZero"], unfollowed := true, recurses := true, named := ["pannier/disk.errArg", "pannier/disk.errDead"], apart := false, laid := [("pannier/disk.errDead", laid_pannier_disk_errDead), ("pannier/disk.errArg", laid_pannier_disk_errArg)] }
def DiskPlaysSaid : Prop := diskPlaysRow.holds Tryd.pinned (OpenSpec.ofChange diskPlaysSpec)

/-- ITS FALSE NEIGHBOUR: 'it returns false'. Refute it at one input. -/
def diskPlaysWrong : ChangeSpec := { name := "diskPlays", fn := fun _ => fun
  | [d1, d2] => { results := [.lit (.bool false)], args := [d1, d2] }
  | _ => none }
def DiskPlaysWrongFalsely : Prop := diskPlaysRow.holds Tryd.pinned (OpenSpec.ofChange diskPlaysWrong)

/-- 'pannierlaw19.DiskNone': WHATEVER THE INPUT: true; the input reads as it did. -/
def diskNoneSpec : ChangeSpec := { name := "diskNone", fn := fun _ => fun
  | [d] => { results := [.lit (.bool true)], args := [d] }
  | _ => none }
def diskNoneRow : OpenClaim := { program := "ytikgfkghfbfccaadoor", sum := "9d5a0191713115450acb0909d646e1e8d210688ee31aa8554d57c84f79af3921", func := "pannier/pannierlaw19.DiskNone", spec := "diskNone", inPlace := ["internal/reflectlite.TypeOf", "internal/abi.NoEscape", "internal/bytealg.MakeNoZero"], unfollowed := true, recurses := true, named := ["pannier/disk.errArg", "pannier/disk.errDead"], apart := false, laid := [("pannier/disk.errDead", laid_pannier_disk_errDead), ("pannier/disk.errArg", laid_pannier_disk_errArg)] }
def DiskNoneSaid : Prop := diskNoneRow.holds Tryd.pinned (OpenSpec.ofChange diskNoneSpec)

/-- ITS FALSE NEIGHBOUR: 'it returns false'. Refute it at one input. -/
def diskNoneWrong : ChangeSpec := { name := "diskNone", fn := fun _ => fun
  | [d] => { results := [.lit (.bool false)], args := [d] }
  | _ => none }
def DiskNoneWrongFalsely : Prop := diskNoneRow.holds Tryd.pinned (OpenSpec.ofChange diskNoneWrong)

/- THE SECOND FORM. 'bulk': how many values and letters a reading holds, each counted each time it is reached (what is shared counts as often as it is met; a slice's spare places count too). A statement '..UptoSaid' is the law's where the arguments, and the package variables that the reading takes, are together of bulk at most 1048576: NARROWER than '..Said'. Prove '..Said' where nothing that the law and all that it calls make is longer than what came in: it says more and counts as full. Else prove '..UptoSaid'. A law counts once. -/
mutual
def uptoBulk {H : Type} : DataW H → Nat
  | .lit (.string bytes) => bytes.length + 1
  | .lit _ => 1
  | .nil => 1
  | .ptr d => uptoBulk d + 1
  | .slice elems spare => uptoBulkAll elems + uptoBulkAll spare + 1
  | .agg parts => uptoBulkAll parts + 1
  | .iface _ d => uptoBulk d + 1
  | .map entries => uptoBulkEntries entries + 1
  | .held _ => 1
def uptoBulkAll {H : Type} : List (DataW H) → Nat
  | [] => 0
  | d :: r => uptoBulk d + uptoBulkAll r
def uptoBulkEntries {H : Type} : List (Lit × DataW H) → Nat
  | [] => 0
  | x :: r => uptoBulkEntry x + uptoBulkEntries r
def uptoBulkEntry {H : Type} : Lit × DataW H → Nat
  | (.string bytes, d) => bytes.length + uptoBulk d + 1
  | (_, d) => uptoBulk d + 1
 end
def uptoSmall : (H : Type) → List (DataW H) → Bool := fun _ ds => decide (uptoBulkAll ds ≤ 1048576)
def OpenSpec.upto (s : _root_.Go.ChangeSpec) : _root_.Go.OpenSpec := { _root_.Go.OpenSpec.ofChange s with cond := some uptoSmall }

/-- 'pannierlaw23.NodePlaces', WHERE WHAT IT READS IS OF BULK AT MOST 1048576: true; the input reads as it did. -/
def nodePlacesUptoRow : OpenClaim := { program := "ytikgfkghfbfccaadoor", sum := "9d5a0191713115450acb0909d646e1e8d210688ee31aa8554d57c84f79af3921", func := "pannier/pannierlaw23.NodePlaces", spec := "nodePlaces", inPlace := ["internal/reflectlite.ValueOf", "(internal/reflectlite.Value).Type", "(internal/reflectlite.Value).IsNil", "internal/reflectlite.TypeOf", "(internal/reflectlite.Value).Elem", "(internal/reflectlite.Value).Set"], unfollowed := true, recurses := true, named := ["errors.errorType"], apart := false, laid := [("errors.errorType", laid_errors_errorType)], narrowed := true }
def NodePlacesUptoSaid : Prop := nodePlacesUptoRow.holds Tryd.pinned (OpenSpec.upto nodePlacesSpec)

/-- 'pannierlaw19.DiskKeeps', WHERE WHAT IT READS IS OF BULK AT MOST 1048576: true; the input reads as it did. -/
def diskKeepsUptoRow : OpenClaim := { program := "ytikgfkghfbfccaadoor", sum := "9d5a0191713115450acb0909d646e1e8d210688ee31aa8554d57c84f79af3921", func := "pannier/pannierlaw19.DiskKeeps", spec := "diskKeeps", inPlace := ["internal/reflectlite.TypeOf", "internal/abi.NoEscape", "internal/bytealg.MakeNoZero"], unfollowed := true, recurses := true, named := ["pannier/disk.errArg", "pannier/disk.errDead"], apart := false, laid := [("pannier/disk.errDead", laid_pannier_disk_errDead), ("pannier/disk.errArg", laid_pannier_disk_errArg)], narrowed := true }
def DiskKeepsUptoSaid : Prop := diskKeepsUptoRow.holds Tryd.pinned (OpenSpec.upto diskKeepsSpec)

/-- 'pannierlaw19.DiskOf', WHERE WHAT IT READS IS OF BULK AT MOST 1048576: true; the input reads as it did. -/
def diskOfUptoRow : OpenClaim := { program := "ytikgfkghfbfccaadoor", sum := "9d5a0191713115450acb0909d646e1e8d210688ee31aa8554d57c84f79af3921", func := "pannier/pannierlaw19.DiskOf", spec := "diskOf", inPlace := ["internal/reflectlite.TypeOf", "internal/abi.NoEscape", "internal/bytealg.MakeNoZero"], unfollowed := true, recurses := true, named := ["pannier/disk.errArg", "pannier/disk.errDead"], apart := false, laid := [("pannier/disk.errDead", laid_pannier_disk_errDead), ("pannier/disk.errArg", laid_pannier_disk_errArg)], narrowed := true }
def DiskOfUptoSaid : Prop := diskOfUptoRow.holds Tryd.pinned (OpenSpec.upto diskOfSpec)

/-- 'pannierlaw19.DiskLast', WHERE WHAT IT READS IS OF BULK AT MOST 1048576: true; the input reads as it did. -/
def diskLastUptoRow : OpenClaim := { program := "ytikgfkghfbfccaadoor", sum := "9d5a0191713115450acb0909d646e1e8d210688ee31aa8554d57c84f79af3921", func := "pannier/pannierlaw19.DiskLast", spec := "diskLast", inPlace := ["internal/reflectlite.TypeOf", "internal/abi.NoEscape", "internal/bytealg.MakeNoZero"], unfollowed := true, recurses := true, named := ["pannier/disk.errArg", "pannier/disk.errDead"], apart := false, laid := [("pannier/disk.errDead", laid_pannier_disk_errDead), ("pannier/disk.errArg", laid_pannier_disk_errArg)], narrowed := true }
def DiskLastUptoSaid : Prop := diskLastUptoRow.holds Tryd.pinned (OpenSpec.upto diskLastSpec)

/-- 'pannierlaw19.DiskPlays', WHERE WHAT IT READS IS OF BULK AT MOST 1048576: true; the input reads as it did. -/
def diskPlaysUptoRow : OpenClaim := { program := "ytikgfkghfbfccaadoor", sum := "9d5a0191713115450acb0909d646e1e8d210688ee31aa8554d57c84f79af3921", func := "pannier/pannierlaw19.DiskPlays", spec := "diskPlays", inPlace := ["internal/reflectlite.TypeOf", "internal/abi.NoEscape", "internal/bytealg.MakeNoZero"], unfollowed := true, recurses := true, named := ["pannier/disk.errArg", "pannier/disk.errDead"], apart := false, laid := [("pannier/disk.errDead", laid_pannier_disk_errDead), ("pannier/disk.errArg", laid_pannier_disk_errArg)], narrowed := true }
def DiskPlaysUptoSaid : Prop := diskPlaysUptoRow.holds Tryd.pinned (OpenSpec.upto diskPlaysSpec)

/-- 'pannierlaw19.DiskNone', WHERE WHAT IT READS IS OF BULK AT MOST 1048576: true; the input reads as it did. -/
def diskNoneUptoRow : OpenClaim := { program := "ytikgfkghfbfccaadoor", sum := "9d5a0191713115450acb0909d646e1e8d210688ee31aa8554d57c84f79af3921", func := "pannier/pannierlaw19.DiskNone", spec := "diskNone", inPlace := ["internal/reflectlite.TypeOf", "internal/abi.NoEscape", "internal/bytealg.MakeNoZero"], unfollowed := true, recurses := true, named := ["pannier/disk.errArg", "pannier/disk.errDead"], apart := false, laid := [("pannier/disk.errDead", laid_pannier_disk_errDead), ("pannier/disk.errArg", laid_pannier_disk_errArg)], narrowed := true }
def DiskNoneUptoSaid : Prop := diskNoneUptoRow.holds Tryd.pinned (OpenSpec.upto diskNoneSpec)

end Rows
end Go.Proofs.YtikgfkghfbfccaaDoor
