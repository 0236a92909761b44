/-
  NARROWER THAN 'FOR EVERY INPUT', by the rows' own cells (each row's printed sentence says how): DiskKeeps: laid · DiskOf: laid · DiskLast: laid · DiskPlays: laid · DiskNone: laid · FrameMakes: laid · FrameBack: laid · FrameTorn: laid · FrameSizes: laid.
  DERIVED. THE GIVEN ROWS OF THIS SEAT. 9 by the template 'for every input the law returns true; each argument reads behind the call as it read before'; 0 by the template 'total and deterministic' (their statements: YtbopppnlgicpeaaDoorTotals.lean).
  GIVEN WITH THE SEED: the statements are not yours to turn. If you find one false, say at which input.
  Laid BY PROGRAM, IN A SANDBOX (cutbox-rows.mjs): the forced cells as the released guide's own fill.sh prints them over the translation afbad7c591c8a897… (all of the seat's roots in one cut). By AI agents, Wed Nov 11 2026. No macro, syntax, notation, axiom, sorry.
-/
import Derived.Test.YtbopppnlgicpeaaDoorChecked
import GoSem.PinnedTables
import GoSem.Claim
import GoSem.ClaimJoined
import GoSem.ClaimMapViews
import Derived.JoinedTies
import Derived.KernelRfl
namespace Go.Proofs.YtbopppnlgicpeaaDoor
/- THE CELL 'sum', in the pinned program and in every row, IS THE sha256 OF THE DUMP (.gsa) THAT YtbopppnlgicpeaaDoorProg.lean LOADS. Nothing in Lean hashes anything: it is a label: what it is worth is what the hold of that sum in a sandbox is worth. -/
noncomputable def Tryd.pinned : Pinned := { name := "ytbopppnlgicpeaadoor", sum := "afbad7c591c8a8973560f5abd1c72b46363b9ae80ddeb5b4011438d473a0e7fd", checked := Tryd.checked }
namespace Rows
def none {H : Type} : Left H := { results := [], args := [] }

/- WHAT THE LISTED PACKAGE-LEVEL VARIABLES READ AS WHEN THE CALL BEGINS. Each datum BY PROGRAM (the guide's laid-datum.mjs) off the statement by which the dump's own 'gosem.cut.vars' lays the variable. In a bare row this is a premise. The card (YtbopppnlgicpeaaDoorCards.lean) ties it to the program's text. -/
def laid_pannier_disk_errDead {H : Type} : DataW H := .iface "*errors.errorString" (.ptr (.agg [.lit (.string [105, 116, 32, 99, 114, 97, 115, 104, 101, 100])]))
def laid_pannier_disk_errArg {H : Type} : DataW H := .iface "*errors.errorString" (.ptr (.agg [.lit (.string [110, 111, 32, 115, 117, 99, 104, 32, 115, 101, 99, 116, 111, 114])]))
def laid_pannier_crc_table {H : Type} : DataW H := .agg [.lit (.int .u32 0), .lit (.int .u32 498536548), .lit (.int .u32 997073096), .lit (.int .u32 651767980), .lit (.int .u32 1994146192), .lit (.int .u32 1802195444), .lit (.int .u32 1303535960), .lit (.int .u32 1342533948), .lit (.int .u32 3988292384), .lit (.int .u32 4027552580), .lit (.int .u32 3604390888), .lit (.int .u32 3412177804), .lit (.int .u32 2607071920), .lit (.int .u32 2262029012), .lit (.int .u32 2685067896), .lit (.int .u32 3183342108)]
def laid_unicode_utf8_acceptRanges {H : Type} : DataW H := .agg [.agg [.lit (.int .u8 128), .lit (.int .u8 191)], .agg [.lit (.int .u8 160), .lit (.int .u8 191)], .agg [.lit (.int .u8 128), .lit (.int .u8 159)], .agg [.lit (.int .u8 144), .lit (.int .u8 191)], .agg [.lit (.int .u8 128), .lit (.int .u8 143)], .agg [.lit (.int .u8 0), .lit (.int .u8 0)], .agg [.lit (.int .u8 0), .lit (.int .u8 0)], .agg [.lit (.int .u8 0), .lit (.int .u8 0)], .agg [.lit (.int .u8 0), .lit (.int .u8 0)], .agg [.lit (.int .u8 0), .lit (.int .u8 0)], .agg [.lit (.int .u8 0), .lit (.int .u8 0)], .agg [.lit (.int .u8 0), .lit (.int .u8 0)], .agg [.lit (.int .u8 0), .lit (.int .u8 0)], .agg [.lit (.int .u8 0), .lit (.int .u8 0)], .agg [.lit (.int .u8 0), .lit (.int .u8 0)], .agg [.lit (.int .u8 0), .lit (.int .u8 0)]]
def laid_errors_errorType {H : Type} : DataW H := .iface "internal/reflectlite.rtype" (.agg [.ptr (.lit (.string [101, 114, 114, 111, 114]))])
def laid_pannier_frame_errTorn {H : Type} : DataW H := .iface "*errors.errorString" (.ptr (.agg [.lit (.string [110, 111, 116, 32, 119, 104, 111, 108, 101])]))
def laid_pannier_frame_errOther {H : Type} : DataW H := .iface "*errors.errorString" (.ptr (.agg [.lit (.string [111, 102, 32, 97, 110, 111, 116, 104, 101, 114, 32, 114, 101, 99, 111, 114, 100])]))
def laid_pannier_frame_errSum {H : Type} : DataW H := .iface "*errors.errorString" (.ptr (.agg [.lit (.string [97, 32, 119, 114, 111, 110, 103, 32, 115, 117, 109])]))
/-- One of Go's own tables, pinned by name: the form's constant. -/
def laid_unicode_utf8_first : DataW Unit := Go.Pinned.utf8First

/-- 'pannierlaw19.DiskKeeps': WHATEVER THE INPUT: true; the input reads as it did. -/
def diskKeepsSpec : ChangeSpec := { name := "diskKeeps", fn := fun _ => fun
  | [d1, d2, d3] => { results := [.lit (.bool true)], args := [d1, d2, d3] }
  | _ => none }
def diskKeepsRow : OpenClaim := { program := "ytbopppnlgicpeaadoor", sum := "afbad7c591c8a8973560f5abd1c72b46363b9ae80ddeb5b4011438d473a0e7fd", func := "pannier/pannierlaw19.DiskKeeps", spec := "diskKeeps", inPlace := ["internal/reflectlite.TypeOf", "internal/abi.NoEscape", "internal/bytealg.MakeNoZero"], unfollowed := true, recurses := true, named := ["pannier/disk.errArg", "pannier/disk.errDead"], apart := false, laid := [("pannier/disk.errDead", laid_pannier_disk_errDead), ("pannier/disk.errArg", laid_pannier_disk_errArg)] }
def DiskKeepsSaid : Prop := diskKeepsRow.holds Tryd.pinned (OpenSpec.ofChange diskKeepsSpec)

/-- ITS FALSE NEIGHBOUR: 'it returns false'. Refute it at one input. -/
def diskKeepsWrong : ChangeSpec := { name := "diskKeeps", fn := fun _ => fun
  | [d1, d2, d3] => { results := [.lit (.bool false)], args := [d1, d2, d3] }
  | _ => none }
def DiskKeepsWrongFalsely : Prop := diskKeepsRow.holds Tryd.pinned (OpenSpec.ofChange diskKeepsWrong)

/-- 'pannierlaw19.DiskOf': WHATEVER THE INPUT: true; the input reads as it did. -/
def diskOfSpec : ChangeSpec := { name := "diskOf", fn := fun _ => fun
  | [d] => { results := [.lit (.bool true)], args := [d] }
  | _ => none }
def diskOfRow : OpenClaim := { program := "ytbopppnlgicpeaadoor", sum := "afbad7c591c8a8973560f5abd1c72b46363b9ae80ddeb5b4011438d473a0e7fd", func := "pannier/pannierlaw19.DiskOf", spec := "diskOf", inPlace := ["internal/reflectlite.TypeOf", "internal/abi.NoEscape", "internal/bytealg.MakeNoZero"], unfollowed := true, recurses := true, named := ["pannier/disk.errArg", "pannier/disk.errDead"], apart := false, laid := [("pannier/disk.errDead", laid_pannier_disk_errDead), ("pannier/disk.errArg", laid_pannier_disk_errArg)] }
def DiskOfSaid : Prop := diskOfRow.holds Tryd.pinned (OpenSpec.ofChange diskOfSpec)

/-- ITS FALSE NEIGHBOUR: 'it returns false'. Refute it at one input. -/
def diskOfWrong : ChangeSpec := { name := "diskOf", fn := fun _ => fun
  | [d] => { results := [.lit (.bool false)], args := [d] }
  | _ => none }
def DiskOfWrongFalsely : Prop := diskOfRow.holds Tryd.pinned (OpenSpec.ofChange diskOfWrong)

/-- 'pannierlaw19.DiskLast': WHATEVER THE INPUT: true; the input reads as it did. -/
def diskLastSpec : ChangeSpec := { name := "diskLast", fn := fun _ => fun
  | [d1, d2] => { results := [.lit (.bool true)], args := [d1, d2] }
  | _ => none }
def diskLastRow : OpenClaim := { program := "ytbopppnlgicpeaadoor", sum := "afbad7c591c8a8973560f5abd1c72b46363b9ae80ddeb5b4011438d473a0e7fd", func := "pannier/pannierlaw19.DiskLast", spec := "diskLast", inPlace := ["internal/reflectlite.TypeOf", "internal/abi.NoEscape", "internal/bytealg.MakeNoZero"], unfollowed := true, recurses := true, named := ["pannier/disk.errArg", "pannier/disk.errDead"], apart := false, laid := [("pannier/disk.errDead", laid_pannier_disk_errDead), ("pannier/disk.errArg", laid_pannier_disk_errArg)] }
def DiskLastSaid : Prop := diskLastRow.holds Tryd.pinned (OpenSpec.ofChange diskLastSpec)

/-- ITS FALSE NEIGHBOUR: 'it returns false'. Refute it at one input. -/
def diskLastWrong : ChangeSpec := { name := "diskLast", fn := fun _ => fun
  | [d1, d2] => { results := [.lit (.bool false)], args := [d1, d2] }
  | _ => none }
def DiskLastWrongFalsely : Prop := diskLastRow.holds Tryd.pinned (OpenSpec.ofChange diskLastWrong)

/-- 'pannierlaw19.DiskPlays': WHATEVER THE INPUT: true; the input reads as it did. -/
def diskPlaysSpec : ChangeSpec := { name := "diskPlays", fn := fun _ => fun
  | [d1, d2] => { results := [.lit (.bool true)], args := [d1, d2] }
  | _ => none }
def diskPlaysRow : OpenClaim := { program := "ytbopppnlgicpeaadoor", sum := "afbad7c591c8a8973560f5abd1c72b46363b9ae80ddeb5b4011438d473a0e7fd", func := "pannier/pannierlaw19.DiskPlays", spec := "diskPlays", inPlace := ["internal/reflectlite.TypeOf", "internal/abi.NoEscape", "internal/bytealg.MakeNoZero"], unfollowed := true, recurses := true, named := ["pannier/disk.errArg", "pannier/disk.errDead"], apart := false, laid := [("pannier/disk.errDead", laid_pannier_disk_errDead), ("pannier/disk.errArg", laid_pannier_disk_errArg)] }
def DiskPlaysSaid : Prop := diskPlaysRow.holds Tryd.pinned (OpenSpec.ofChange diskPlaysSpec)

/-- ITS FALSE NEIGHBOUR: 'it returns false'. Refute it at one input. -/
def diskPlaysWrong : ChangeSpec := { name := "diskPlays", fn := fun _ => fun
  | [d1, d2] => { results := [.lit (.bool false)], args := [d1, d2] }
  | _ => none }
def DiskPlaysWrongFalsely : Prop := diskPlaysRow.holds Tryd.pinned (OpenSpec.ofChange diskPlaysWrong)

/-- 'pannierlaw19.DiskNone': WHATEVER THE INPUT: true; the input reads as it did. -/
def diskNoneSpec : ChangeSpec := { name := "diskNone", fn := fun _ => fun
  | [d] => { results := [.lit (.bool true)], args := [d] }
  | _ => none }
def diskNoneRow : OpenClaim := { program := "ytbopppnlgicpeaadoor", sum := "afbad7c591c8a8973560f5abd1c72b46363b9ae80ddeb5b4011438d473a0e7fd", func := "pannier/pannierlaw19.DiskNone", spec := "diskNone", inPlace := ["internal/reflectlite.TypeOf", "internal/abi.NoEscape", "internal/bytealg.MakeNoZero"], unfollowed := true, recurses := true, named := ["pannier/disk.errArg", "pannier/disk.errDead"], apart := false, laid := [("pannier/disk.errDead", laid_pannier_disk_errDead), ("pannier/disk.errArg", laid_pannier_disk_errArg)] }
def DiskNoneSaid : Prop := diskNoneRow.holds Tryd.pinned (OpenSpec.ofChange diskNoneSpec)

/-- ITS FALSE NEIGHBOUR: 'it returns false'. Refute it at one input. -/
def diskNoneWrong : ChangeSpec := { name := "diskNone", fn := fun _ => fun
  | [d] => { results := [.lit (.bool false)], args := [d] }
  | _ => none }
def DiskNoneWrongFalsely : Prop := diskNoneRow.holds Tryd.pinned (OpenSpec.ofChange diskNoneWrong)

/-- 'pannierlaw18.FrameMakes': WHATEVER THE INPUT: true; the input reads as it did. -/
def frameMakesSpec : ChangeSpec := { name := "frameMakes", fn := fun _ => fun
  | [d1, d2, d3] => { results := [.lit (.bool true)], args := [d1, d2, d3] }
  | _ => none }
def frameMakesRow : OpenClaim := { program := "ytbopppnlgicpeaadoor", sum := "afbad7c591c8a8973560f5abd1c72b46363b9ae80ddeb5b4011438d473a0e7fd", func := "pannier/pannierlaw18.FrameMakes", spec := "frameMakes", inPlace := ["internal/reflectlite.ValueOf", "(internal/reflectlite.Value).Type", "(internal/reflectlite.Value).IsNil", "internal/reflectlite.TypeOf", "(internal/reflectlite.Value).Elem", "(internal/reflectlite.Value).Set", "internal/abi.NoEscape", "internal/bytealg.MakeNoZero", "internal/bytealg.IndexByteString", "internal/bytealg.IndexString"], unfollowed := true, recurses := true, named := ["errors.errorType", "pannier/crc.table", "pannier/frame.errTorn", "pannier/frame.errOther", "pannier/frame.errSum", "unicode/utf8.first", "unicode/utf8.acceptRanges", "internal/bytealg.MaxLen"], apart := false, laid := [("pannier/crc.table", laid_pannier_crc_table), ("unicode/utf8.acceptRanges", laid_unicode_utf8_acceptRanges), ("errors.errorType", laid_errors_errorType), ("pannier/frame.errTorn", laid_pannier_frame_errTorn), ("pannier/frame.errOther", laid_pannier_frame_errOther), ("pannier/frame.errSum", laid_pannier_frame_errSum), ("unicode/utf8.first", laid_unicode_utf8_first)] }
def FrameMakesSaid : Prop := frameMakesRow.holds Tryd.pinned (OpenSpec.ofChange frameMakesSpec)

/-- ITS FALSE NEIGHBOUR: 'it returns false'. Refute it at one input. -/
def frameMakesWrong : ChangeSpec := { name := "frameMakes", fn := fun _ => fun
  | [d1, d2, d3] => { results := [.lit (.bool false)], args := [d1, d2, d3] }
  | _ => none }
def FrameMakesWrongFalsely : Prop := frameMakesRow.holds Tryd.pinned (OpenSpec.ofChange frameMakesWrong)

/-- 'pannierlaw18.FrameBack': WHATEVER THE INPUT: true; the input reads as it did. -/
def frameBackSpec : ChangeSpec := { name := "frameBack", fn := fun _ => fun
  | [d1, d2, d3] => { results := [.lit (.bool true)], args := [d1, d2, d3] }
  | _ => none }
def frameBackRow : OpenClaim := { program := "ytbopppnlgicpeaadoor", sum := "afbad7c591c8a8973560f5abd1c72b46363b9ae80ddeb5b4011438d473a0e7fd", func := "pannier/pannierlaw18.FrameBack", spec := "frameBack", inPlace := ["internal/reflectlite.ValueOf", "(internal/reflectlite.Value).Type", "(internal/reflectlite.Value).IsNil", "internal/reflectlite.TypeOf", "(internal/reflectlite.Value).Elem", "(internal/reflectlite.Value).Set", "internal/abi.NoEscape", "internal/bytealg.MakeNoZero", "internal/bytealg.IndexByteString", "internal/bytealg.IndexString"], unfollowed := true, recurses := true, named := ["errors.errorType", "pannier/crc.table", "pannier/frame.errTorn", "pannier/frame.errOther", "pannier/frame.errSum", "unicode/utf8.first", "unicode/utf8.acceptRanges", "internal/bytealg.MaxLen"], apart := false, laid := [("pannier/crc.table", laid_pannier_crc_table), ("unicode/utf8.acceptRanges", laid_unicode_utf8_acceptRanges), ("errors.errorType", laid_errors_errorType), ("pannier/frame.errTorn", laid_pannier_frame_errTorn), ("pannier/frame.errOther", laid_pannier_frame_errOther), ("pannier/frame.errSum", laid_pannier_frame_errSum), ("unicode/utf8.first", laid_unicode_utf8_first)] }
def FrameBackSaid : Prop := frameBackRow.holds Tryd.pinned (OpenSpec.ofChange frameBackSpec)

/-- ITS FALSE NEIGHBOUR: 'it returns false'. Refute it at one input. -/
def frameBackWrong : ChangeSpec := { name := "frameBack", fn := fun _ => fun
  | [d1, d2, d3] => { results := [.lit (.bool false)], args := [d1, d2, d3] }
  | _ => none }
def FrameBackWrongFalsely : Prop := frameBackRow.holds Tryd.pinned (OpenSpec.ofChange frameBackWrong)

/-- 'pannierlaw18.FrameTorn': WHATEVER THE INPUT: true; the input reads as it did. -/
def frameTornSpec : ChangeSpec := { name := "frameTorn", fn := fun _ => fun
  | [d1, d2, d3] => { results := [.lit (.bool true)], args := [d1, d2, d3] }
  | _ => none }
def frameTornRow : OpenClaim := { program := "ytbopppnlgicpeaadoor", sum := "afbad7c591c8a8973560f5abd1c72b46363b9ae80ddeb5b4011438d473a0e7fd", func := "pannier/pannierlaw18.FrameTorn", spec := "frameTorn", inPlace := ["internal/reflectlite.ValueOf", "(internal/reflectlite.Value).Type", "(internal/reflectlite.Value).IsNil", "internal/reflectlite.TypeOf", "(internal/reflectlite.Value).Elem", "(internal/reflectlite.Value).Set", "internal/abi.NoEscape", "internal/bytealg.MakeNoZero", "internal/bytealg.IndexByteString", "internal/bytealg.IndexString"], unfollowed := true, recurses := true, named := ["errors.errorType", "pannier/crc.table", "pannier/frame.errTorn", "pannier/frame.errOther", "pannier/frame.errSum", "unicode/utf8.first", "unicode/utf8.acceptRanges", "internal/bytealg.MaxLen"], apart := false, laid := [("pannier/crc.table", laid_pannier_crc_table), ("unicode/utf8.acceptRanges", laid_unicode_utf8_acceptRanges), ("errors.errorType", laid_errors_errorType), ("pannier/frame.errTorn", laid_pannier_frame_errTorn), ("pannier/frame.errOther", laid_pannier_frame_errOther), ("pannier/frame.errSum", laid_pannier_frame_errSum), ("unicode/utf8.first", laid_unicode_utf8_first)] }
def FrameTornSaid : Prop := frameTornRow.holds Tryd.pinned (OpenSpec.ofChange frameTornSpec)

/-- ITS FALSE NEIGHBOUR: 'it returns false'. Refute it at one input. -/
def frameTornWrong : ChangeSpec := { name := "frameTorn", fn := fun _ => fun
  | [d1, d2, d3] => { results := [.lit (.bool false)], args := [d1, d2, d3] }
  | _ => none }
def FrameTornWrongFalsely : Prop := frameTornRow.holds Tryd.pinned (OpenSpec.ofChange frameTornWrong)

/-- 'pannierlaw18.FrameSizes': WHATEVER THE INPUT: true; the input reads as it did. -/
def frameSizesSpec : ChangeSpec := { name := "frameSizes", fn := fun _ => fun
  | [d1, d2, d3] => { results := [.lit (.bool true)], args := [d1, d2, d3] }
  | _ => none }
def frameSizesRow : OpenClaim := { program := "ytbopppnlgicpeaadoor", sum := "afbad7c591c8a8973560f5abd1c72b46363b9ae80ddeb5b4011438d473a0e7fd", func := "pannier/pannierlaw18.FrameSizes", spec := "frameSizes", inPlace := ["internal/reflectlite.ValueOf", "(internal/reflectlite.Value).Type", "(internal/reflectlite.Value).IsNil", "internal/reflectlite.TypeOf", "(internal/reflectlite.Value).Elem", "(internal/reflectlite.Value).Set", "internal/abi.NoEscape", "internal/bytealg.MakeNoZero", "internal/bytealg.IndexByteString", "internal/bytealg.IndexString"], unfollowed := true, recurses := true, named := ["errors.errorType", "pannier/crc.table", "pannier/frame.errTorn", "pannier/frame.errOther", "pannier/frame.errSum", "unicode/utf8.first", "unicode/utf8.acceptRanges", "internal/bytealg.MaxLen"], apart := false, laid := [("pannier/crc.table", laid_pannier_crc_table), ("unicode/utf8.acceptRanges", laid_unicode_utf8_acceptRanges), ("errors.errorType", laid_errors_errorType), ("pannier/frame.errTorn", laid_pannier_frame_errTorn), ("pannier/frame.errOther", laid_pannier_frame_errOther), ("pannier/frame.errSum", laid_pannier_frame_errSum), ("unicode/utf8.first", laid_unicode_utf8_first)] }
def FrameSizesSaid : Prop := frameSizesRow.holds Tryd.pinned (OpenSpec.ofChange frameSizesSpec)

/-- ITS FALSE NEIGHBOUR: 'it returns false'. Refute it at one input. -/
def frameSizesWrong : ChangeSpec := { name := "frameSizes", fn := fun _ => fun
  | [d1, d2, d3] => { results := [.lit (.bool false)], args := [d1, d2, d3] }
  | _ => none }
def FrameSizesWrongFalsely : Prop := frameSizesRow.holds Tryd.pinned (OpenSpec.ofChange frameSizesWrong)

/- THE SECOND FORM. 'bulk': how many values and letters a reading holds, each counted each time it is reached (what is shared counts as often as it is met; a slice's spare places count too). A statement '..UptoSaid' is the law's where the arguments, and the package variables that the reading takes, are together of bulk at most 1048576: NARROWER than '..Said'. Prove '..Said' where nothing that the law and all that it calls make is longer than what came in: it says more and counts as full. Else prove '..UptoSaid'. A law counts once. -/
mutual
def uptoBulk {H : Type} : DataW H → Nat
  | .lit (.string bytes) => bytes.length + 1
  | .lit _ => 1
  | .nil => 1
  | .ptr d => uptoBulk d + 1
  | .slice elems spare => uptoBulkAll elems + uptoBulkAll spare + 1
  | .agg parts => uptoBulkAll parts + 1
  | .iface _ d => uptoBulk d + 1
  | .map entries => uptoBulkEntries entries + 1
  | .held _ => 1
def uptoBulkAll {H : Type} : List (DataW H) → Nat
  | [] => 0
  | d :: r => uptoBulk d + uptoBulkAll r
def uptoBulkEntries {H : Type} : List (Lit × DataW H) → Nat
  | [] => 0
  | x :: r => uptoBulkEntry x + uptoBulkEntries r
def uptoBulkEntry {H : Type} : Lit × DataW H → Nat
  | (.string bytes, d) => bytes.length + uptoBulk d + 1
  | (_, d) => uptoBulk d + 1
 end
def uptoSmall : (H : Type) → List (DataW H) → Bool := fun _ ds => decide (uptoBulkAll ds ≤ 1048576)
def OpenSpec.upto (s : _root_.Go.ChangeSpec) : _root_.Go.OpenSpec := { _root_.Go.OpenSpec.ofChange s with cond := some uptoSmall }

/-- 'pannierlaw19.DiskKeeps', WHERE WHAT IT READS IS OF BULK AT MOST 1048576: true; the input reads as it did. -/
def diskKeepsUptoRow : OpenClaim := { program := "ytbopppnlgicpeaadoor", sum := "afbad7c591c8a8973560f5abd1c72b46363b9ae80ddeb5b4011438d473a0e7fd", func := "pannier/pannierlaw19.DiskKeeps", spec := "diskKeeps", inPlace := ["internal/reflectlite.TypeOf", "internal/abi.NoEscape", "internal/bytealg.MakeNoZero"], unfollowed := true, recurses := true, named := ["pannier/disk.errArg", "pannier/disk.errDead"], apart := false, laid := [("pannier/disk.errDead", laid_pannier_disk_errDead), ("pannier/disk.errArg", laid_pannier_disk_errArg)], narrowed := true }
def DiskKeepsUptoSaid : Prop := diskKeepsUptoRow.holds Tryd.pinned (OpenSpec.upto diskKeepsSpec)

/-- 'pannierlaw19.DiskOf', WHERE WHAT IT READS IS OF BULK AT MOST 1048576: true; the input reads as it did. -/
def diskOfUptoRow : OpenClaim := { program := "ytbopppnlgicpeaadoor", sum := "afbad7c591c8a8973560f5abd1c72b46363b9ae80ddeb5b4011438d473a0e7fd", func := "pannier/pannierlaw19.DiskOf", spec := "diskOf", inPlace := ["internal/reflectlite.TypeOf", "internal/abi.NoEscape", "internal/bytealg.MakeNoZero"], unfollowed := true, recurses := true, named := ["pannier/disk.errArg", "pannier/disk.errDead"], apart := false, laid := [("pannier/disk.errDead", laid_pannier_disk_errDead), ("pannier/disk.errArg", laid_pannier_disk_errArg)], narrowed := true }
def DiskOfUptoSaid : Prop := diskOfUptoRow.holds Tryd.pinned (OpenSpec.upto diskOfSpec)

/-- 'pannierlaw19.DiskLast', WHERE WHAT IT READS IS OF BULK AT MOST 1048576: true; the input reads as it did. -/
def diskLastUptoRow : OpenClaim := { program := "ytbopppnlgicpeaadoor", sum := "afbad7c591c8a8973560f5abd1c72b46363b9ae80ddeb5b4011438d473a0e7fd", func := "pannier/pannierlaw19.DiskLast", spec := "diskLast", inPlace := ["internal/reflectlite.TypeOf", "internal/abi.NoEscape", "internal/bytealg.MakeNoZero"], unfollowed := true, recurses := true, named := ["pannier/disk.errArg", "pannier/disk.errDead"], apart := false, laid := [("pannier/disk.errDead", laid_pannier_disk_errDead), ("pannier/disk.errArg", laid_pannier_disk_errArg)], narrowed := true }
def DiskLastUptoSaid : Prop := diskLastUptoRow.holds Tryd.pinned (OpenSpec.upto diskLastSpec)

/-- 'pannierlaw19.DiskPlays', WHERE WHAT IT READS IS OF BULK AT MOST 1048576: true; the input reads as it did. -/
def diskPlaysUptoRow : OpenClaim := { program := "ytbopppnlgicpeaadoor", sum := "afbad7c591c8a8973560f5abd1c72b46363b9ae80ddeb5b4011438d473a0e7fd", func := "pannier/pannierlaw19.DiskPlays", spec := "diskPlays", inPlace := ["internal/reflectlite.TypeOf", "internal/abi.NoEscape", "internal/bytealg.MakeNoZero"], unfollowed := true, recurses := true, named := ["pannier/disk.errArg", "pannier/disk.errDead"], apart := false, laid := [("pannier/disk.errDead", laid_pannier_disk_errDead), ("pannier/disk.errArg", laid_pannier_disk_errArg)], narrowed := true }
def DiskPlaysUptoSaid : Prop := diskPlaysUptoRow.holds Tryd.pinned (OpenSpec.upto diskPlaysSpec)

/-- 'pannierlaw19.DiskNone', WHERE WHAT IT READS IS OF BULK AT MOST 1048576: true; the input reads as it did. -/
def diskNoneUptoRow : OpenClaim := { program := "ytbopppnlgicpeaadoor", sum := "afbad7c591c8a8973560f5abd1c72b46363b9ae80ddeb5b4011438d473a0e7fd", func := "pannier/pannierlaw19.DiskNone", spec := "diskNone", inPlace := ["internal/reflectlite.TypeOf", "internal/abi.NoEscape", "internal/bytealg.MakeNoZero"], unfollowed := true, recurses := true, named := ["pannier/disk.errArg", "pannier/disk.errDead"], apart := false, laid := [("pannier/disk.errDead", laid_pannier_disk_errDead), ("pannier/disk.errArg", laid_pannier_disk_errArg)], narrowed := true }
def DiskNoneUptoSaid : Prop := diskNoneUptoRow.holds Tryd.pinned (OpenSpec.upto diskNoneSpec)

/-- 'pannierlaw18.FrameMakes', WHERE WHAT IT READS IS OF BULK AT MOST 1048576: true; the input reads as it did. -/
def frameMakesUptoRow : OpenClaim := { program := "ytbopppnlgicpeaadoor", sum := "afbad7c591c8a8973560f5abd1c72b46363b9ae80ddeb5b4011438d473a0e7fd", func := "pannier/pannierlaw18.FrameMakes", spec := "frameMakes", inPlace := ["internal/reflectlite.ValueOf", "(internal/reflectlite.Value).Type", "(internal/reflectlite.Value).IsNil", "internal/reflectlite.TypeOf", "(internal/reflectlite.Value).Elem", "(internal/reflectlite.Value).Set", "internal/abi.NoEscape", "internal/bytealg.MakeNoZero", "internal/bytealg.IndexByteString", "internal/bytealg.IndexString"], unfollowed := true, recurses := true, named := ["errors.errorType", "pannier/crc.table", "pannier/frame.errTorn", "pannier/frame.errOther", "pannier/frame.errSum", "unicode/utf8.first", "unicode/utf8.acceptRanges", "internal/bytealg.MaxLen"], apart := false, laid := [("pannier/crc.table", laid_pannier_crc_table), ("unicode/utf8.acceptRanges", laid_unicode_utf8_acceptRanges), ("errors.errorType", laid_errors_errorType), ("pannier/frame.errTorn", laid_pannier_frame_errTorn), ("pannier/frame.errOther", laid_pannier_frame_errOther), ("pannier/frame.errSum", laid_pannier_frame_errSum), ("unicode/utf8.first", laid_unicode_utf8_first)], narrowed := true }
def FrameMakesUptoSaid : Prop := frameMakesUptoRow.holds Tryd.pinned (OpenSpec.upto frameMakesSpec)

/-- 'pannierlaw18.FrameBack', WHERE WHAT IT READS IS OF BULK AT MOST 1048576: true; the input reads as it did. -/
def frameBackUptoRow : OpenClaim := { program := "ytbopppnlgicpeaadoor", sum := "afbad7c591c8a8973560f5abd1c72b46363b9ae80ddeb5b4011438d473a0e7fd", func := "pannier/pannierlaw18.FrameBack", spec := "frameBack", inPlace := ["internal/reflectlite.ValueOf", "(internal/reflectlite.Value).Type", "(internal/reflectlite.Value).IsNil", "internal/reflectlite.TypeOf", "(internal/reflectlite.Value).Elem", "(internal/reflectlite.Value).Set", "internal/abi.NoEscape", "internal/bytealg.MakeNoZero", "internal/bytealg.IndexByteString", "internal/bytealg.IndexString"], unfollowed := true, recurses := true, named := ["errors.errorType", "pannier/crc.table", "pannier/frame.errTorn", "pannier/frame.errOther", "pannier/frame.errSum", "unicode/utf8.first", "unicode/utf8.acceptRanges", "internal/bytealg.MaxLen"], apart := false, laid := [("pannier/crc.table", laid_pannier_crc_table), ("unicode/utf8.acceptRanges", laid_unicode_utf8_acceptRanges), ("errors.errorType", laid_errors_errorType), ("pannier/frame.errTorn", laid_pannier_frame_errTorn), ("pannier/frame.errOther", laid_pannier_frame_errOther), ("pannier/frame.errSum", laid_pannier_frame_errSum), ("unicode/utf8.first", laid_unicode_utf8_first)], narrowed := true }
def FrameBackUptoSaid : Prop := frameBackUptoRow.holds Tryd.pinned (OpenSpec.upto frameBackSpec)

/-- 'pannierlaw18.FrameTorn', WHERE WHAT IT READS IS OF BULK AT MOST 1048576: true; the input reads as it did. -/
def frameTornUptoRow : OpenClaim := { program := "ytbopppnlgicpeaadoor", sum := "afbad7c591c8a8973560f5abd1c72b46363b9ae80ddeb5b4011438d473a0e7fd", func := "pannier/pannierlaw18.FrameTorn", spec := "frameTorn", inPlace := ["internal/reflectlite.ValueOf", "(internal/reflectlite.Value).Type", "(internal/reflectlite.Value).IsNil", "internal/reflectlite.TypeOf", "(internal/reflectlite.Value).Elem", "(internal/reflectlite.Value).Set", "internal/abi.NoEscape", "internal/bytealg.MakeNoZero", "internal/bytealg.IndexByteString", "internal/bytealg.IndexString"], unfollowed := true, recurses := true, named := ["errors.errorType", "pannier/crc.table", "pannier/frame.errTorn", "pannier/frame.errOther", "pannier/frame.errSum", "unicode/utf8.first", "unicode/utf8.acceptRanges", "internal/bytealg.MaxLen"], apart := false, laid := [("pannier/crc.table", laid_pannier_crc_table), ("unicode/utf8.acceptRanges", laid_unicode_utf8_acceptRanges), ("errors.errorType", laid_errors_errorType), ("pannier/frame.errTorn", laid_pannier_frame_errTorn), ("pannier/frame.errOther", laid_pannier_frame_errOther), ("pannier/frame.errSum", laid_pannier_frame_errSum), ("unicode/utf8.first", laid_unicode_utf8_first)], narrowed := true }
def FrameTornUptoSaid : Prop := frameTornUptoRow.holds Tryd.pinned (OpenSpec.upto frameTornSpec)

/-- 'pannierlaw18.FrameSizes', WHERE WHAT IT READS IS OF BULK AT MOST 1048576: true; the input reads as it did. -/
def frameSizesUptoRow : OpenClaim := { program := "ytbopppnlgicpeaadoor", sum := "afbad7c591c8a8973560f5abd1c72b46363b9ae80ddeb5b4011438d473a0e7fd", func := "pannier/pannierlaw18.FrameSizes", spec := "frameSizes", inPlace := ["internal/reflectlite.ValueOf", "(internal/reflectlite.Value).Type", "(internal/reflectlite.Value).IsNil", "internal/reflectlite.TypeOf", "(internal/reflectlite.Value).Elem", "(internal/reflectlite.Value).Set", "internal/abi.NoEscape", "internal/bytealg.MakeNoZero", "internal/bytealg.IndexByteString", "internal/bytealg.IndexString"], unfollowed := true, recurses := true, named := ["errors.errorType", "pannier/crc.table", "pannier/frame.errTorn", "pannier/frame.errOther", "pannier/frame.errSum", "unicode/utf8.first", "unicode/utf8.acceptRanges", "internal/bytealg.MaxLen"], apart := false, laid := [("pannier/crc.table", laid_pannier_crc_table), ("unicode/utf8.acceptRanges", laid_unicode_utf8_acceptRanges), ("errors.errorType", laid_errors_errorType), ("pannier/frame.errTorn", laid_pannier_frame_errTorn), ("pannier/frame.errOther", laid_pannier_frame_errOther), ("pannier/frame.errSum", laid_pannier_frame_errSum), ("unicode/utf8.first", laid_unicode_utf8_first)], narrowed := true }
def FrameSizesUptoSaid : Prop := frameSizesUptoRow.holds Tryd.pinned (OpenSpec.upto frameSizesSpec)

end Rows
end Go.Proofs.YtbopppnlgicpeaaDoor
