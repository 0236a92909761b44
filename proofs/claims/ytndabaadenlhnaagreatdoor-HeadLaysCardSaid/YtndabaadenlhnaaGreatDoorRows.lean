/-
  NARROWER THAN 'FOR EVERY INPUT', by the rows' own cells (each row's printed sentence says how): HeadCodes: laid · HeadBack: laid · HeadLays: laid · HeadSafe: laid · HeadReads: laid.
  DERIVED. THE GIVEN ROWS OF THIS SEAT. 5 by the template 'for every input the law returns true; each argument reads behind the call as it read before'; 0 by the template 'total and deterministic' (their statements: YtndabaadenlhnaaGreatDoorTotals.lean).
  GIVEN WITH THE SEED: the statements are not yours to turn. If you find one false, say at which input.
  Laid BY PROGRAM, IN A SANDBOX (cutbox-rows.mjs): the forced cells as the released guide's own fill.sh prints them over the translation b38ad287bda54851… (all of the seat's roots in one cut). By AI agents, Wed Nov 11 2026. No macro, syntax, notation, axiom, sorry.
-/
import Derived.Test.YtndabaadenlhnaaGreatDoorChecked
import GoSem.PinnedTables
import GoSem.Claim
import GoSem.ClaimJoined
import GoSem.ClaimMapViews
import Derived.JoinedTies
import Derived.KernelRfl
namespace Go.Proofs.YtndabaadenlhnaaGreatDoor
/- THE CELL 'sum', in the pinned program and in every row, IS THE sha256 OF THE DUMP (.gsa) THAT YtndabaadenlhnaaGreatDoorProg.lean LOADS. Nothing in Lean hashes anything: it is a label: what it is worth is what the hold of that sum in a sandbox is worth. -/
noncomputable def Tryz.pinned : Pinned := { name := "ytndabaadenlhnaagreatdoor", sum := "b38ad287bda54851a4a3be3dd678f94f565dbaa31c22f9e196ff4ead7aa1e07b", checked := Tryz.checked }
namespace Rows
def none {H : Type} : Left H := { results := [], args := [] }

/- WHAT THE LISTED PACKAGE-LEVEL VARIABLES READ AS WHEN THE CALL BEGINS. Each datum BY PROGRAM (the guide's laid-datum.mjs) off the statement by which the dump's own 'gosem.cut.vars' lays the variable. In a bare row this is a premise. The card (YtndabaadenlhnaaGreatDoorCards.lean) ties it to the program's text. -/
def laid_pannier_crc_table {H : Type} : DataW H := .agg [.lit (.int .u32 0), .lit (.int .u32 498536548), .lit (.int .u32 997073096), .lit (.int .u32 651767980), .lit (.int .u32 1994146192), .lit (.int .u32 1802195444), .lit (.int .u32 1303535960), .lit (.int .u32 1342533948), .lit (.int .u32 3988292384), .lit (.int .u32 4027552580), .lit (.int .u32 3604390888), .lit (.int .u32 3412177804), .lit (.int .u32 2607071920), .lit (.int .u32 2262029012), .lit (.int .u32 2685067896), .lit (.int .u32 3183342108)]
def laid_unicode_utf8_acceptRanges {H : Type} : DataW H := .agg [.agg [.lit (.int .u8 128), .lit (.int .u8 191)], .agg [.lit (.int .u8 160), .lit (.int .u8 191)], .agg [.lit (.int .u8 128), .lit (.int .u8 159)], .agg [.lit (.int .u8 144), .lit (.int .u8 191)], .agg [.lit (.int .u8 128), .lit (.int .u8 143)], .agg [.lit (.int .u8 0), .lit (.int .u8 0)], .agg [.lit (.int .u8 0), .lit (.int .u8 0)], .agg [.lit (.int .u8 0), .lit (.int .u8 0)], .agg [.lit (.int .u8 0), .lit (.int .u8 0)], .agg [.lit (.int .u8 0), .lit (.int .u8 0)], .agg [.lit (.int .u8 0), .lit (.int .u8 0)], .agg [.lit (.int .u8 0), .lit (.int .u8 0)], .agg [.lit (.int .u8 0), .lit (.int .u8 0)], .agg [.lit (.int .u8 0), .lit (.int .u8 0)], .agg [.lit (.int .u8 0), .lit (.int .u8 0)], .agg [.lit (.int .u8 0), .lit (.int .u8 0)]]
def laid_errors_errorType {H : Type} : DataW H := .iface "internal/reflectlite.rtype" (.agg [.ptr (.lit (.string [101, 114, 114, 111, 114]))])
def laid_pannier_disk_errDead {H : Type} : DataW H := .iface "*errors.errorString" (.ptr (.agg [.lit (.string [105, 116, 32, 99, 114, 97, 115, 104, 101, 100])]))
def laid_pannier_disk_errArg {H : Type} : DataW H := .iface "*errors.errorString" (.ptr (.agg [.lit (.string [110, 111, 32, 115, 117, 99, 104, 32, 115, 101, 99, 116, 111, 114])]))
def laid_pannier_frame_errTorn {H : Type} : DataW H := .iface "*errors.errorString" (.ptr (.agg [.lit (.string [110, 111, 116, 32, 119, 104, 111, 108, 101])]))
def laid_pannier_frame_errOther {H : Type} : DataW H := .iface "*errors.errorString" (.ptr (.agg [.lit (.string [111, 102, 32, 97, 110, 111, 116, 104, 101, 114, 32, 114, 101, 99, 111, 114, 100])]))
def laid_pannier_frame_errSum {H : Type} : DataW H := .iface "*errors.errorString" (.ptr (.agg [.lit (.string [97, 32, 119, 114, 111, 110, 103, 32, 115, 117, 109])]))
/-- One of Go's own tables, pinned by name: the form's constant. -/
def laid_unicode_utf8_first : DataW Unit := Go.Pinned.utf8First

/-- 'pannierlaw20.HeadCodes': WHATEVER THE INPUT: true; the input reads as it did. -/
def headCodesSpec : ChangeSpec := { name := "headCodes", fn := fun _ => fun
  | [d1, d2, d3] => { results := [.lit (.bool true)], args := [d1, d2, d3] }
  | _ => none }
def headCodesRow : OpenClaim := { program := "ytndabaadenlhnaagreatdoor", sum := "b38ad287bda54851a4a3be3dd678f94f565dbaa31c22f9e196ff4ead7aa1e07b", func := "pannier/pannierlaw20.HeadCodes", spec := "headCodes", inPlace := ["internal/reflectlite.ValueOf", "(internal/reflectlite.Value).Type", "(internal/reflectlite.Value).IsNil", "internal/reflectlite.TypeOf", "(internal/reflectlite.Value).Elem", "(internal/reflectlite.Value).Set", "internal/abi.NoEscape", "internal/bytealg.MakeNoZero", "internal/bytealg.IndexByteString", "internal/bytealg.IndexString"], unfollowed := true, recurses := true, named := ["errors.errorType", "pannier/crc.table", "pannier/disk.errArg", "pannier/disk.errDead", "pannier/frame.errTorn", "pannier/frame.errOther", "pannier/frame.errSum", "unicode/utf8.first", "unicode/utf8.acceptRanges", "internal/bytealg.MaxLen"], apart := false, laid := [("pannier/crc.table", laid_pannier_crc_table), ("unicode/utf8.acceptRanges", laid_unicode_utf8_acceptRanges), ("errors.errorType", laid_errors_errorType), ("pannier/disk.errDead", laid_pannier_disk_errDead), ("pannier/disk.errArg", laid_pannier_disk_errArg), ("pannier/frame.errTorn", laid_pannier_frame_errTorn), ("pannier/frame.errOther", laid_pannier_frame_errOther), ("pannier/frame.errSum", laid_pannier_frame_errSum), ("unicode/utf8.first", laid_unicode_utf8_first)] }
def HeadCodesSaid : Prop := headCodesRow.holds Tryz.pinned (OpenSpec.ofChange headCodesSpec)

/-- ITS FALSE NEIGHBOUR: 'it returns false'. Refute it at one input. -/
def headCodesWrong : ChangeSpec := { name := "headCodes", fn := fun _ => fun
  | [d1, d2, d3] => { results := [.lit (.bool false)], args := [d1, d2, d3] }
  | _ => none }
def HeadCodesWrongFalsely : Prop := headCodesRow.holds Tryz.pinned (OpenSpec.ofChange headCodesWrong)

/-- 'pannierlaw20.HeadBack': WHATEVER THE INPUT: true; the input reads as it did. -/
def headBackSpec : ChangeSpec := { name := "headBack", fn := fun _ => fun
  | [d1, d2] => { results := [.lit (.bool true)], args := [d1, d2] }
  | _ => none }
def headBackRow : OpenClaim := { program := "ytndabaadenlhnaagreatdoor", sum := "b38ad287bda54851a4a3be3dd678f94f565dbaa31c22f9e196ff4ead7aa1e07b", func := "pannier/pannierlaw20.HeadBack", spec := "headBack", inPlace := ["internal/reflectlite.ValueOf", "(internal/reflectlite.Value).Type", "(internal/reflectlite.Value).IsNil", "internal/reflectlite.TypeOf", "(internal/reflectlite.Value).Elem", "(internal/reflectlite.Value).Set", "internal/abi.NoEscape", "internal/bytealg.MakeNoZero", "internal/bytealg.IndexByteString", "internal/bytealg.IndexString"], unfollowed := true, recurses := true, named := ["errors.errorType", "pannier/crc.table", "pannier/disk.errArg", "pannier/disk.errDead", "pannier/frame.errTorn", "pannier/frame.errOther", "pannier/frame.errSum", "unicode/utf8.first", "unicode/utf8.acceptRanges", "internal/bytealg.MaxLen"], apart := false, laid := [("pannier/crc.table", laid_pannier_crc_table), ("unicode/utf8.acceptRanges", laid_unicode_utf8_acceptRanges), ("errors.errorType", laid_errors_errorType), ("pannier/disk.errDead", laid_pannier_disk_errDead), ("pannier/disk.errArg", laid_pannier_disk_errArg), ("pannier/frame.errTorn", laid_pannier_frame_errTorn), ("pannier/frame.errOther", laid_pannier_frame_errOther), ("pannier/frame.errSum", laid_pannier_frame_errSum), ("unicode/utf8.first", laid_unicode_utf8_first)] }
def HeadBackSaid : Prop := headBackRow.holds Tryz.pinned (OpenSpec.ofChange headBackSpec)

/-- ITS FALSE NEIGHBOUR: 'it returns false'. Refute it at one input. -/
def headBackWrong : ChangeSpec := { name := "headBack", fn := fun _ => fun
  | [d1, d2] => { results := [.lit (.bool false)], args := [d1, d2] }
  | _ => none }
def HeadBackWrongFalsely : Prop := headBackRow.holds Tryz.pinned (OpenSpec.ofChange headBackWrong)

/-- 'pannierlaw20.HeadLays': WHATEVER THE INPUT: true; the input reads as it did. -/
def headLaysSpec : ChangeSpec := { name := "headLays", fn := fun _ => fun
  | [d] => { results := [.lit (.bool true)], args := [d] }
  | _ => none }
def headLaysRow : OpenClaim := { program := "ytndabaadenlhnaagreatdoor", sum := "b38ad287bda54851a4a3be3dd678f94f565dbaa31c22f9e196ff4ead7aa1e07b", func := "pannier/pannierlaw20.HeadLays", spec := "headLays", inPlace := ["internal/reflectlite.ValueOf", "(internal/reflectlite.Value).Type", "(internal/reflectlite.Value).IsNil", "internal/reflectlite.TypeOf", "(internal/reflectlite.Value).Elem", "(internal/reflectlite.Value).Set", "internal/abi.NoEscape", "internal/bytealg.MakeNoZero", "internal/bytealg.IndexByteString", "internal/bytealg.IndexString"], unfollowed := true, recurses := true, named := ["errors.errorType", "pannier/crc.table", "pannier/disk.errArg", "pannier/disk.errDead", "pannier/frame.errTorn", "pannier/frame.errOther", "pannier/frame.errSum", "unicode/utf8.first", "unicode/utf8.acceptRanges", "internal/bytealg.MaxLen"], apart := false, laid := [("pannier/crc.table", laid_pannier_crc_table), ("unicode/utf8.acceptRanges", laid_unicode_utf8_acceptRanges), ("errors.errorType", laid_errors_errorType), ("pannier/disk.errDead", laid_pannier_disk_errDead), ("pannier/disk.errArg", laid_pannier_disk_errArg), ("pannier/frame.errTorn", laid_pannier_frame_errTorn), ("pannier/frame.errOther", laid_pannier_frame_errOther), ("pannier/frame.errSum", laid_pannier_frame_errSum), ("unicode/utf8.first", laid_unicode_utf8_first)] }
def HeadLaysSaid : Prop := headLaysRow.holds Tryz.pinned (OpenSpec.ofChange headLaysSpec)

/-- ITS FALSE NEIGHBOUR: 'it returns false'. Refute it at one input. -/
def headLaysWrong : ChangeSpec := { name := "headLays", fn := fun _ => fun
  | [d] => { results := [.lit (.bool false)], args := [d] }
  | _ => none }
def HeadLaysWrongFalsely : Prop := headLaysRow.holds Tryz.pinned (OpenSpec.ofChange headLaysWrong)

/-- 'pannierlaw20.HeadSafe': WHATEVER THE INPUT: true; the input reads as it did. -/
def headSafeSpec : ChangeSpec := { name := "headSafe", fn := fun _ => fun
  | [d1, d2, d3] => { results := [.lit (.bool true)], args := [d1, d2, d3] }
  | _ => none }
def headSafeRow : OpenClaim := { program := "ytndabaadenlhnaagreatdoor", sum := "b38ad287bda54851a4a3be3dd678f94f565dbaa31c22f9e196ff4ead7aa1e07b", func := "pannier/pannierlaw20.HeadSafe", spec := "headSafe", inPlace := ["internal/reflectlite.ValueOf", "(internal/reflectlite.Value).Type", "(internal/reflectlite.Value).IsNil", "internal/reflectlite.TypeOf", "(internal/reflectlite.Value).Elem", "(internal/reflectlite.Value).Set", "internal/abi.NoEscape", "internal/bytealg.MakeNoZero", "internal/bytealg.IndexByteString", "internal/bytealg.IndexString"], unfollowed := true, recurses := true, named := ["errors.errorType", "pannier/crc.table", "pannier/disk.errArg", "pannier/disk.errDead", "pannier/frame.errTorn", "pannier/frame.errOther", "pannier/frame.errSum", "unicode/utf8.first", "unicode/utf8.acceptRanges", "internal/bytealg.MaxLen"], apart := false, laid := [("pannier/crc.table", laid_pannier_crc_table), ("unicode/utf8.acceptRanges", laid_unicode_utf8_acceptRanges), ("errors.errorType", laid_errors_errorType), ("pannier/disk.errDead", laid_pannier_disk_errDead), ("pannier/disk.errArg", laid_pannier_disk_errArg), ("pannier/frame.errTorn", laid_pannier_frame_errTorn), ("pannier/frame.errOther", laid_pannier_frame_errOther), ("pannier/frame.errSum", laid_pannier_frame_errSum), ("unicode/utf8.first", laid_unicode_utf8_first)] }
def HeadSafeSaid : Prop := headSafeRow.holds Tryz.pinned (OpenSpec.ofChange headSafeSpec)

/-- ITS FALSE NEIGHBOUR: 'it returns false'. Refute it at one input. -/
def headSafeWrong : ChangeSpec := { name := "headSafe", fn := fun _ => fun
  | [d1, d2, d3] => { results := [.lit (.bool false)], args := [d1, d2, d3] }
  | _ => none }
def HeadSafeWrongFalsely : Prop := headSafeRow.holds Tryz.pinned (OpenSpec.ofChange headSafeWrong)

/-- 'pannierlaw20.HeadReads': WHATEVER THE INPUT: true; the input reads as it did. -/
def headReadsSpec : ChangeSpec := { name := "headReads", fn := fun _ => fun
  | [d1, d2, d3] => { results := [.lit (.bool true)], args := [d1, d2, d3] }
  | _ => none }
def headReadsRow : OpenClaim := { program := "ytndabaadenlhnaagreatdoor", sum := "b38ad287bda54851a4a3be3dd678f94f565dbaa31c22f9e196ff4ead7aa1e07b", func := "pannier/pannierlaw20.HeadReads", spec := "headReads", inPlace := ["internal/reflectlite.ValueOf", "(internal/reflectlite.Value).Type", "(internal/reflectlite.Value).IsNil", "internal/reflectlite.TypeOf", "(internal/reflectlite.Value).Elem", "(internal/reflectlite.Value).Set", "internal/abi.NoEscape", "internal/bytealg.MakeNoZero", "internal/bytealg.IndexByteString", "internal/bytealg.IndexString"], unfollowed := true, recurses := true, named := ["errors.errorType", "pannier/crc.table", "pannier/disk.errArg", "pannier/disk.errDead", "pannier/frame.errTorn", "pannier/frame.errOther", "pannier/frame.errSum", "unicode/utf8.first", "unicode/utf8.acceptRanges", "internal/bytealg.MaxLen"], apart := false, laid := [("pannier/crc.table", laid_pannier_crc_table), ("unicode/utf8.acceptRanges", laid_unicode_utf8_acceptRanges), ("errors.errorType", laid_errors_errorType), ("pannier/disk.errDead", laid_pannier_disk_errDead), ("pannier/disk.errArg", laid_pannier_disk_errArg), ("pannier/frame.errTorn", laid_pannier_frame_errTorn), ("pannier/frame.errOther", laid_pannier_frame_errOther), ("pannier/frame.errSum", laid_pannier_frame_errSum), ("unicode/utf8.first", laid_unicode_utf8_first)] }
def HeadReadsSaid : Prop := headReadsRow.holds Tryz.pinned (OpenSpec.ofChange headReadsSpec)

/-- ITS FALSE NEIGHBOUR: 'it returns false'. Refute it at one input. -/
def headReadsWrong : ChangeSpec := { name := "headReads", fn := fun _ => fun
  | [d1, d2, d3] => { results := [.lit (.bool false)], args := [d1, d2, d3] }
  | _ => none }
def HeadReadsWrongFalsely : Prop := headReadsRow.holds Tryz.pinned (OpenSpec.ofChange headReadsWrong)

/- THE SECOND FORM. 'bulk': how many values and letters a reading holds, each counted each time it is reached (what is shared counts as often as it is met; a slice's spare places count too). A statement '..UptoSaid' is the law's where the arguments, and the package variables that the reading takes, are together of bulk at most 1048576: NARROWER than '..Said'. Prove '..Said' where nothing that the law and all that it calls make is longer than what came in: it says more and counts as full. Else prove '..UptoSaid'. A law counts once. -/
mutual
def uptoBulk {H : Type} : DataW H → Nat
  | .lit (.string bytes) => bytes.length + 1
  | .lit _ => 1
  | .nil => 1
  | .ptr d => uptoBulk d + 1
  | .slice elems spare => uptoBulkAll elems + uptoBulkAll spare + 1
  | .agg parts => uptoBulkAll parts + 1
  | .iface _ d => uptoBulk d + 1
  | .map entries => uptoBulkEntries entries + 1
  | .held _ => 1
def uptoBulkAll {H : Type} : List (DataW H) → Nat
  | [] => 0
  | d :: r => uptoBulk d + uptoBulkAll r
def uptoBulkEntries {H : Type} : List (Lit × DataW H) → Nat
  | [] => 0
  | x :: r => uptoBulkEntry x + uptoBulkEntries r
def uptoBulkEntry {H : Type} : Lit × DataW H → Nat
  | (.string bytes, d) => bytes.length + uptoBulk d + 1
  | (_, d) => uptoBulk d + 1
 end
def uptoSmall : (H : Type) → List (DataW H) → Bool := fun _ ds => decide (uptoBulkAll ds ≤ 1048576)
def OpenSpec.upto (s : _root_.Go.ChangeSpec) : _root_.Go.OpenSpec := { _root_.Go.OpenSpec.ofChange s with cond := some uptoSmall }

/-- 'pannierlaw20.HeadCodes', WHERE WHAT IT READS IS OF BULK AT MOST 1048576: true; the input reads as it did. -/
def headCodesUptoRow : OpenClaim := { program := "ytndabaadenlhnaagreatdoor", sum := "b38ad287bda54851a4a3be3dd678f94f565dbaa31c22f9e196ff4ead7aa1e07b", func := "pannier/pannierlaw20.HeadCodes", spec := "headCodes", inPlace := ["internal/reflectlite.ValueOf", "(internal/reflectlite.Value).Type", "(internal/reflectlite.Value).IsNil", "internal/reflectlite.TypeOf", "(internal/reflectlite.Value).Elem", "(internal/reflectlite.Value).Set", "internal/abi.NoEscape", "internal/bytealg.MakeNoZero", "internal/bytealg.IndexByteString", "internal/bytealg.IndexString"], unfollowed := true, recurses := true, named := ["errors.errorType", "pannier/crc.table", "pannier/disk.errArg", "pannier/disk.errDead", "pannier/frame.errTorn", "pannier/frame.errOther", "pannier/frame.errSum", "unicode/utf8.first", "unicode/utf8.acceptRanges", "internal/bytealg.MaxLen"], apart := false, laid := [("pannier/crc.table", laid_pannier_crc_table), ("unicode/utf8.acceptRanges", laid_unicode_utf8_acceptRanges), ("errors.errorType", laid_errors_errorType), ("pannier/disk.errDead", laid_pannier_disk_errDead), ("pannier/disk.errArg", laid_pannier_disk_errArg), ("pannier/frame.errTorn", laid_pannier_frame_errTorn), ("pannier/frame.errOther", laid_pannier_frame_errOther), ("pannier/frame.errSum", laid_pannier_frame_errSum), ("unicode/utf8.first", laid_unicode_utf8_first)], narrowed := true }
def HeadCodesUptoSaid : Prop := headCodesUptoRow.holds Tryz.pinned (OpenSpec.upto headCodesSpec)

/-- 'pannierlaw20.HeadBack', WHERE WHAT IT READS IS OF BULK AT MOST 1048576: true; the input reads as it did. -/
def headBackUptoRow : OpenClaim := { program := "ytndabaadenlhnaagreatdoor", sum := "b38ad287bda54851a4a3be3dd678f94f565dbaa31c22f9e196ff4ead7aa1e07b", func := "pannier/pannierlaw20.HeadBack", spec := "headBack", inPlace := ["internal/reflectlite.ValueOf", "(internal/reflectlite.Value).Type", "(internal/reflectlite.Value).IsNil", "internal/reflectlite.TypeOf", "(internal/reflectlite.Value).Elem", "(internal/reflectlite.Value).Set", "internal/abi.NoEscape", "internal/bytealg.MakeNoZero", "internal/bytealg.IndexByteString", "internal/bytealg.IndexString"], unfollowed := true, recurses := true, named := ["errors.errorType", "pannier/crc.table", "pannier/disk.errArg", "pannier/disk.errDead", "pannier/frame.errTorn", "pannier/frame.errOther", "pannier/frame.errSum", "unicode/utf8.first", "unicode/utf8.acceptRanges", "internal/bytealg.MaxLen"], apart := false, laid := [("pannier/crc.table", laid_pannier_crc_table), ("unicode/utf8.acceptRanges", laid_unicode_utf8_acceptRanges), ("errors.errorType", laid_errors_errorType), ("pannier/disk.errDead", laid_pannier_disk_errDead), ("pannier/disk.errArg", laid_pannier_disk_errArg), ("pannier/frame.errTorn", laid_pannier_frame_errTorn), ("pannier/frame.errOther", laid_pannier_frame_errOther), ("pannier/frame.errSum", laid_pannier_frame_errSum), ("unicode/utf8.first", laid_unicode_utf8_first)], narrowed := true }
def HeadBackUptoSaid : Prop := headBackUptoRow.holds Tryz.pinned (OpenSpec.upto headBackSpec)

/-- 'pannierlaw20.HeadLays', WHERE WHAT IT READS IS OF BULK AT MOST 1048576: true; the input reads as it did. -/
def headLaysUptoRow : OpenClaim := { program := "ytndabaadenlhnaagreatdoor", sum := "b38ad287bda54851a4a3be3dd678f94f565dbaa31c22f9e196ff4ead7aa1e07b", func := "pannier/pannierlaw20.HeadLays", spec := "headLays", inPlace := ["internal/reflectlite.ValueOf", "(internal/reflectlite.Value).Type", "(internal/reflectlite.Value).IsNil", "internal/reflectlite.TypeOf", "(internal/reflectlite.Value).Elem", "(internal/reflectlite.Value).Set", "internal/abi.NoEscape", "internal/bytealg.MakeNoZero", "internal/bytealg.IndexByteString", "internal/bytealg.IndexString"], unfollowed := true, recurses := true, named := ["errors.errorType", "pannier/crc.table", "pannier/disk.errArg", "pannier/disk.errDead", "pannier/frame.errTorn", "pannier/frame.errOther", "pannier/frame.errSum", "unicode/utf8.first", "unicode/utf8.acceptRanges", "internal/bytealg.MaxLen"], apart := false, laid := [("pannier/crc.table", laid_pannier_crc_table), ("unicode/utf8.acceptRanges", laid_unicode_utf8_acceptRanges), ("errors.errorType", laid_errors_errorType), ("pannier/disk.errDead", laid_pannier_disk_errDead), ("pannier/disk.errArg", laid_pannier_disk_errArg), ("pannier/frame.errTorn", laid_pannier_frame_errTorn), ("pannier/frame.errOther", laid_pannier_frame_errOther), ("pannier/frame.errSum", laid_pannier_frame_errSum), ("unicode/utf8.first", laid_unicode_utf8_first)], narrowed := true }
def HeadLaysUptoSaid : Prop := headLaysUptoRow.holds Tryz.pinned (OpenSpec.upto headLaysSpec)

/-- 'pannierlaw20.HeadSafe', WHERE WHAT IT READS IS OF BULK AT MOST 1048576: true; the input reads as it did. -/
def headSafeUptoRow : OpenClaim := { program := "ytndabaadenlhnaagreatdoor", sum := "b38ad287bda54851a4a3be3dd678f94f565dbaa31c22f9e196ff4ead7aa1e07b", func := "pannier/pannierlaw20.HeadSafe", spec := "headSafe", inPlace := ["internal/reflectlite.ValueOf", "(internal/reflectlite.Value).Type", "(internal/reflectlite.Value).IsNil", "internal/reflectlite.TypeOf", "(internal/reflectlite.Value).Elem", "(internal/reflectlite.Value).Set", "internal/abi.NoEscape", "internal/bytealg.MakeNoZero", "internal/bytealg.IndexByteString", "internal/bytealg.IndexString"], unfollowed := true, recurses := true, named := ["errors.errorType", "pannier/crc.table", "pannier/disk.errArg", "pannier/disk.errDead", "pannier/frame.errTorn", "pannier/frame.errOther", "pannier/frame.errSum", "unicode/utf8.first", "unicode/utf8.acceptRanges", "internal/bytealg.MaxLen"], apart := false, laid := [("pannier/crc.table", laid_pannier_crc_table), ("unicode/utf8.acceptRanges", laid_unicode_utf8_acceptRanges), ("errors.errorType", laid_errors_errorType), ("pannier/disk.errDead", laid_pannier_disk_errDead), ("pannier/disk.errArg", laid_pannier_disk_errArg), ("pannier/frame.errTorn", laid_pannier_frame_errTorn), ("pannier/frame.errOther", laid_pannier_frame_errOther), ("pannier/frame.errSum", laid_pannier_frame_errSum), ("unicode/utf8.first", laid_unicode_utf8_first)], narrowed := true }
def HeadSafeUptoSaid : Prop := headSafeUptoRow.holds Tryz.pinned (OpenSpec.upto headSafeSpec)

/-- 'pannierlaw20.HeadReads', WHERE WHAT IT READS IS OF BULK AT MOST 1048576: true; the input reads as it did. -/
def headReadsUptoRow : OpenClaim := { program := "ytndabaadenlhnaagreatdoor", sum := "b38ad287bda54851a4a3be3dd678f94f565dbaa31c22f9e196ff4ead7aa1e07b", func := "pannier/pannierlaw20.HeadReads", spec := "headReads", inPlace := ["internal/reflectlite.ValueOf", "(internal/reflectlite.Value).Type", "(internal/reflectlite.Value).IsNil", "internal/reflectlite.TypeOf", "(internal/reflectlite.Value).Elem", "(internal/reflectlite.Value).Set", "internal/abi.NoEscape", "internal/bytealg.MakeNoZero", "internal/bytealg.IndexByteString", "internal/bytealg.IndexString"], unfollowed := true, recurses := true, named := ["errors.errorType", "pannier/crc.table", "pannier/disk.errArg", "pannier/disk.errDead", "pannier/frame.errTorn", "pannier/frame.errOther", "pannier/frame.errSum", "unicode/utf8.first", "unicode/utf8.acceptRanges", "internal/bytealg.MaxLen"], apart := false, laid := [("pannier/crc.table", laid_pannier_crc_table), ("unicode/utf8.acceptRanges", laid_unicode_utf8_acceptRanges), ("errors.errorType", laid_errors_errorType), ("pannier/disk.errDead", laid_pannier_disk_errDead), ("pannier/disk.errArg", laid_pannier_disk_errArg), ("pannier/frame.errTorn", laid_pannier_frame_errTorn), ("pannier/frame.errOther", laid_pannier_frame_errOther), ("pannier/frame.errSum", laid_pannier_frame_errSum), ("unicode/utf8.first", laid_unicode_utf8_first)], narrowed := true }
def HeadReadsUptoSaid : Prop := headReadsUptoRow.holds Tryz.pinned (OpenSpec.upto headReadsSpec)

end Rows
end Go.Proofs.YtndabaadenlhnaaGreatDoor
