/-
  NARROWER THAN 'FOR EVERY INPUT', by the rows' own cells (each row's printed sentence says how): WalSafe: laid · WalNumbers: laid · WalEmpty: laid · WalNone: laid · HeadCodes: laid · HeadBack: laid · HeadSafe: laid · WalFull: laid · WalPlays: laid · HeadReads: laid.
  DERIVED. THE GIVEN ROWS OF THIS SEAT. 10 by the template 'for every input the law returns true; each argument reads behind the call as it read before'; 0 by the template 'total and deterministic' (their statements: YtoebldemcgahnaaGreatDoorTotals.lean).
  GIVEN WITH THE SEED: the statements are not yours to turn. If you find one false, say at which input.
  Laid BY PROGRAM, IN A SANDBOX (cutbox-rows.mjs): the forced cells as the released guide's own fill.sh prints them over the translation b73c8bf6c81a7e05… (all of the seat's roots in one cut). By AI agents, Wed Nov 11 2026. No macro, syntax, notation, axiom, sorry.
-/
import Derived.Test.YtoebldemcgahnaaGreatDoorChecked
import GoSem.PinnedTables
import GoSem.Claim
import GoSem.ClaimJoined
import GoSem.ClaimMapViews
import Derived.JoinedTies
import Derived.KernelRfl
namespace Go.Proofs.YtoebldemcgahnaaGreatDoor
/- THE CELL 'sum', in the pinned program and in every row, IS THE sha256 OF THE DUMP (.gsa) THAT YtoebldemcgahnaaGreatDoorProg.lean LOADS. Nothing in Lean hashes anything: it is a label: what it is worth is what the hold of that sum in a sandbox is worth. -/
noncomputable def Tryz.pinned : Pinned := { name := "ytoebldemcgahnaagreatdoor", sum := "b73c8bf6c81a7e057eac8c8e0a1e9ff7cc2fd298e3fc8edf2c3602b1b054feab", checked := Tryz.checked }
namespace Rows
def none {H : Type} : Left H := { results := [], args := [] }

/- WHAT THE LISTED PACKAGE-LEVEL VARIABLES READ AS WHEN THE CALL BEGINS. Each datum BY PROGRAM (the guide's laid-datum.mjs) off the statement by which the dump's own 'gosem.cut.vars' lays the variable. In a bare row this is a premise. The card (YtoebldemcgahnaaGreatDoorCards.lean) ties it to the program's text. -/
def laid_pannier_crc_table {H : Type} : DataW H := .agg [.lit (.int .u32 0), .lit (.int .u32 498536548), .lit (.int .u32 997073096), .lit (.int .u32 651767980), .lit (.int .u32 1994146192), .lit (.int .u32 1802195444), .lit (.int .u32 1303535960), .lit (.int .u32 1342533948), .lit (.int .u32 3988292384), .lit (.int .u32 4027552580), .lit (.int .u32 3604390888), .lit (.int .u32 3412177804), .lit (.int .u32 2607071920), .lit (.int .u32 2262029012), .lit (.int .u32 2685067896), .lit (.int .u32 3183342108)]
def laid_unicode_utf8_acceptRanges {H : Type} : DataW H := .agg [.agg [.lit (.int .u8 128), .lit (.int .u8 191)], .agg [.lit (.int .u8 160), .lit (.int .u8 191)], .agg [.lit (.int .u8 128), .lit (.int .u8 159)], .agg [.lit (.int .u8 144), .lit (.int .u8 191)], .agg [.lit (.int .u8 128), .lit (.int .u8 143)], .agg [.lit (.int .u8 0), .lit (.int .u8 0)], .agg [.lit (.int .u8 0), .lit (.int .u8 0)], .agg [.lit (.int .u8 0), .lit (.int .u8 0)], .agg [.lit (.int .u8 0), .lit (.int .u8 0)], .agg [.lit (.int .u8 0), .lit (.int .u8 0)], .agg [.lit (.int .u8 0), .lit (.int .u8 0)], .agg [.lit (.int .u8 0), .lit (.int .u8 0)], .agg [.lit (.int .u8 0), .lit (.int .u8 0)], .agg [.lit (.int .u8 0), .lit (.int .u8 0)], .agg [.lit (.int .u8 0), .lit (.int .u8 0)], .agg [.lit (.int .u8 0), .lit (.int .u8 0)]]
def laid_errors_errorType {H : Type} : DataW H := .iface "internal/reflectlite.rtype" (.agg [.ptr (.lit (.string [101, 114, 114, 111, 114]))])
def laid_pannier_disk_errDead {H : Type} : DataW H := .iface "*errors.errorString" (.ptr (.agg [.lit (.string [105, 116, 32, 99, 114, 97, 115, 104, 101, 100])]))
def laid_pannier_disk_errArg {H : Type} : DataW H := .iface "*errors.errorString" (.ptr (.agg [.lit (.string [110, 111, 32, 115, 117, 99, 104, 32, 115, 101, 99, 116, 111, 114])]))
def laid_pannier_frame_errTorn {H : Type} : DataW H := .iface "*errors.errorString" (.ptr (.agg [.lit (.string [110, 111, 116, 32, 119, 104, 111, 108, 101])]))
def laid_pannier_frame_errOther {H : Type} : DataW H := .iface "*errors.errorString" (.ptr (.agg [.lit (.string [111, 102, 32, 97, 110, 111, 116, 104, 101, 114, 32, 114, 101, 99, 111, 114, 100])]))
def laid_pannier_frame_errSum {H : Type} : DataW H := .iface "*errors.errorString" (.ptr (.agg [.lit (.string [97, 32, 119, 114, 111, 110, 103, 32, 115, 117, 109])]))
def laid_pannier_wal_errDead {H : Type} : DataW H := .iface "*errors.errorString" (.ptr (.agg [.lit (.string [97, 32, 119, 114, 105, 116, 101, 32, 102, 97, 105, 108, 101, 100])]))
def laid_pannier_wal_errLong {H : Type} : DataW H := .iface "*errors.errorString" (.ptr (.agg [.lit (.string [116, 111, 111, 32, 108, 111, 110, 103])]))
def laid_pannier_wal_errFull {H : Type} : DataW H := .iface "*errors.errorString" (.ptr (.agg [.lit (.string [110, 111, 32, 114, 111, 111, 109])]))
/-- One of Go's own tables, pinned by name: the form's constant. -/
def laid_unicode_utf8_first : DataW Unit := Go.Pinned.utf8First

/-- 'pannierlaw21.WalSafe': WHATEVER THE INPUT: true; the input reads as it did. -/
def walSafeSpec : ChangeSpec := { name := "walSafe", fn := fun _ => fun
  | [d1, d2, d3] => { results := [.lit (.bool true)], args := [d1, d2, d3] }
  | _ => none }
def walSafeRow : OpenClaim := { program := "ytoebldemcgahnaagreatdoor", sum := "b73c8bf6c81a7e057eac8c8e0a1e9ff7cc2fd298e3fc8edf2c3602b1b054feab", func := "pannier/pannierlaw21.WalSafe", spec := "walSafe", inPlace := ["internal/reflectlite.TypeOf", "internal/abi.NoEscape", "internal/bytealg.MakeNoZero", "internal/reflectlite.ValueOf", "(internal/reflectlite.Value).Type", "(internal/reflectlite.Value).IsNil", "(internal/reflectlite.Value).Elem", "(internal/reflectlite.Value).Set", "internal/bytealg.IndexByteString", "internal/bytealg.IndexString"], unfollowed := true, recurses := true, named := ["pannier/disk.errArg", "pannier/disk.errDead", "pannier/frame.errTorn", "pannier/frame.errOther", "pannier/frame.errSum", "errors.errorType", "pannier/crc.table", "unicode/utf8.first", "unicode/utf8.acceptRanges", "pannier/wal.errDead", "pannier/wal.errLong", "pannier/wal.errFull", "internal/bytealg.MaxLen"], apart := false, laid := [("pannier/crc.table", laid_pannier_crc_table), ("unicode/utf8.acceptRanges", laid_unicode_utf8_acceptRanges), ("errors.errorType", laid_errors_errorType), ("pannier/disk.errDead", laid_pannier_disk_errDead), ("pannier/disk.errArg", laid_pannier_disk_errArg), ("pannier/frame.errTorn", laid_pannier_frame_errTorn), ("pannier/frame.errOther", laid_pannier_frame_errOther), ("pannier/frame.errSum", laid_pannier_frame_errSum), ("pannier/wal.errDead", laid_pannier_wal_errDead), ("pannier/wal.errLong", laid_pannier_wal_errLong), ("pannier/wal.errFull", laid_pannier_wal_errFull), ("unicode/utf8.first", laid_unicode_utf8_first)] }
def WalSafeSaid : Prop := walSafeRow.holds Tryz.pinned (OpenSpec.ofChange walSafeSpec)

/-- ITS FALSE NEIGHBOUR: 'it returns false'. Refute it at one input. -/
def walSafeWrong : ChangeSpec := { name := "walSafe", fn := fun _ => fun
  | [d1, d2, d3] => { results := [.lit (.bool false)], args := [d1, d2, d3] }
  | _ => none }
def WalSafeWrongFalsely : Prop := walSafeRow.holds Tryz.pinned (OpenSpec.ofChange walSafeWrong)

/-- 'pannierlaw21.WalNumbers': WHATEVER THE INPUT: true; the input reads as it did. -/
def walNumbersSpec : ChangeSpec := { name := "walNumbers", fn := fun _ => fun
  | [d] => { results := [.lit (.bool true)], args := [d] }
  | _ => none }
def walNumbersRow : OpenClaim := { program := "ytoebldemcgahnaagreatdoor", sum := "b73c8bf6c81a7e057eac8c8e0a1e9ff7cc2fd298e3fc8edf2c3602b1b054feab", func := "pannier/pannierlaw21.WalNumbers", spec := "walNumbers", inPlace := ["internal/reflectlite.TypeOf", "internal/abi.NoEscape", "internal/bytealg.MakeNoZero", "internal/reflectlite.ValueOf", "(internal/reflectlite.Value).Type", "(internal/reflectlite.Value).IsNil", "(internal/reflectlite.Value).Elem", "(internal/reflectlite.Value).Set", "internal/bytealg.IndexByteString", "internal/bytealg.IndexString"], unfollowed := true, recurses := true, named := ["pannier/disk.errArg", "pannier/disk.errDead", "pannier/frame.errTorn", "pannier/frame.errOther", "pannier/frame.errSum", "errors.errorType", "pannier/crc.table", "unicode/utf8.first", "unicode/utf8.acceptRanges", "pannier/wal.errDead", "pannier/wal.errLong", "pannier/wal.errFull", "internal/bytealg.MaxLen"], apart := false, laid := [("pannier/crc.table", laid_pannier_crc_table), ("unicode/utf8.acceptRanges", laid_unicode_utf8_acceptRanges), ("errors.errorType", laid_errors_errorType), ("pannier/disk.errDead", laid_pannier_disk_errDead), ("pannier/disk.errArg", laid_pannier_disk_errArg), ("pannier/frame.errTorn", laid_pannier_frame_errTorn), ("pannier/frame.errOther", laid_pannier_frame_errOther), ("pannier/frame.errSum", laid_pannier_frame_errSum), ("pannier/wal.errDead", laid_pannier_wal_errDead), ("pannier/wal.errLong", laid_pannier_wal_errLong), ("pannier/wal.errFull", laid_pannier_wal_errFull), ("unicode/utf8.first", laid_unicode_utf8_first)] }
def WalNumbersSaid : Prop := walNumbersRow.holds Tryz.pinned (OpenSpec.ofChange walNumbersSpec)

/-- ITS FALSE NEIGHBOUR: 'it returns false'. Refute it at one input. -/
def walNumbersWrong : ChangeSpec := { name := "walNumbers", fn := fun _ => fun
  | [d] => { results := [.lit (.bool false)], args := [d] }
  | _ => none }
def WalNumbersWrongFalsely : Prop := walNumbersRow.holds Tryz.pinned (OpenSpec.ofChange walNumbersWrong)

/-- 'pannierlaw21.WalEmpty': WHATEVER THE INPUT: true; the input reads as it did. -/
def walEmptySpec : ChangeSpec := { name := "walEmpty", fn := fun _ => fun
  | [d1, d2, d3] => { results := [.lit (.bool true)], args := [d1, d2, d3] }
  | _ => none }
def walEmptyRow : OpenClaim := { program := "ytoebldemcgahnaagreatdoor", sum := "b73c8bf6c81a7e057eac8c8e0a1e9ff7cc2fd298e3fc8edf2c3602b1b054feab", func := "pannier/pannierlaw21.WalEmpty", spec := "walEmpty", inPlace := ["internal/reflectlite.TypeOf", "internal/abi.NoEscape", "internal/bytealg.MakeNoZero", "internal/reflectlite.ValueOf", "(internal/reflectlite.Value).Type", "(internal/reflectlite.Value).IsNil", "(internal/reflectlite.Value).Elem", "(internal/reflectlite.Value).Set", "internal/bytealg.IndexByteString", "internal/bytealg.IndexString"], unfollowed := true, recurses := true, named := ["pannier/disk.errArg", "pannier/disk.errDead", "pannier/frame.errTorn", "pannier/frame.errOther", "pannier/frame.errSum", "errors.errorType", "pannier/crc.table", "unicode/utf8.first", "unicode/utf8.acceptRanges", "pannier/wal.errDead", "pannier/wal.errLong", "pannier/wal.errFull", "internal/bytealg.MaxLen"], apart := false, laid := [("pannier/crc.table", laid_pannier_crc_table), ("unicode/utf8.acceptRanges", laid_unicode_utf8_acceptRanges), ("errors.errorType", laid_errors_errorType), ("pannier/disk.errDead", laid_pannier_disk_errDead), ("pannier/disk.errArg", laid_pannier_disk_errArg), ("pannier/frame.errTorn", laid_pannier_frame_errTorn), ("pannier/frame.errOther", laid_pannier_frame_errOther), ("pannier/frame.errSum", laid_pannier_frame_errSum), ("pannier/wal.errDead", laid_pannier_wal_errDead), ("pannier/wal.errLong", laid_pannier_wal_errLong), ("pannier/wal.errFull", laid_pannier_wal_errFull), ("unicode/utf8.first", laid_unicode_utf8_first)] }
def WalEmptySaid : Prop := walEmptyRow.holds Tryz.pinned (OpenSpec.ofChange walEmptySpec)

/-- ITS FALSE NEIGHBOUR: 'it returns false'. Refute it at one input. -/
def walEmptyWrong : ChangeSpec := { name := "walEmpty", fn := fun _ => fun
  | [d1, d2, d3] => { results := [.lit (.bool false)], args := [d1, d2, d3] }
  | _ => none }
def WalEmptyWrongFalsely : Prop := walEmptyRow.holds Tryz.pinned (OpenSpec.ofChange walEmptyWrong)

/-- 'pannierlaw21.WalNone': WHATEVER THE INPUT: true; the input reads as it did. -/
def walNoneSpec : ChangeSpec := { name := "walNone", fn := fun _ => fun
  | [d] => { results := [.lit (.bool true)], args := [d] }
  | _ => none }
def walNoneRow : OpenClaim := { program := "ytoebldemcgahnaagreatdoor", sum := "b73c8bf6c81a7e057eac8c8e0a1e9ff7cc2fd298e3fc8edf2c3602b1b054feab", func := "pannier/pannierlaw21.WalNone", spec := "walNone", inPlace := ["internal/reflectlite.TypeOf", "internal/abi.NoEscape", "internal/bytealg.MakeNoZero", "internal/reflectlite.ValueOf", "(internal/reflectlite.Value).Type", "(internal/reflectlite.Value).IsNil", "(internal/reflectlite.Value).Elem", "(internal/reflectlite.Value).Set", "internal/bytealg.IndexByteString", "internal/bytealg.IndexString"], unfollowed := true, recurses := true, named := ["pannier/disk.errArg", "pannier/disk.errDead", "pannier/frame.errTorn", "pannier/frame.errOther", "pannier/frame.errSum", "errors.errorType", "pannier/crc.table", "unicode/utf8.first", "unicode/utf8.acceptRanges", "pannier/wal.errDead", "pannier/wal.errLong", "pannier/wal.errFull", "internal/bytealg.MaxLen"], apart := false, laid := [("pannier/crc.table", laid_pannier_crc_table), ("unicode/utf8.acceptRanges", laid_unicode_utf8_acceptRanges), ("errors.errorType", laid_errors_errorType), ("pannier/disk.errDead", laid_pannier_disk_errDead), ("pannier/disk.errArg", laid_pannier_disk_errArg), ("pannier/frame.errTorn", laid_pannier_frame_errTorn), ("pannier/frame.errOther", laid_pannier_frame_errOther), ("pannier/frame.errSum", laid_pannier_frame_errSum), ("pannier/wal.errDead", laid_pannier_wal_errDead), ("pannier/wal.errLong", laid_pannier_wal_errLong), ("pannier/wal.errFull", laid_pannier_wal_errFull), ("unicode/utf8.first", laid_unicode_utf8_first)] }
def WalNoneSaid : Prop := walNoneRow.holds Tryz.pinned (OpenSpec.ofChange walNoneSpec)

/-- ITS FALSE NEIGHBOUR: 'it returns false'. Refute it at one input. -/
def walNoneWrong : ChangeSpec := { name := "walNone", fn := fun _ => fun
  | [d] => { results := [.lit (.bool false)], args := [d] }
  | _ => none }
def WalNoneWrongFalsely : Prop := walNoneRow.holds Tryz.pinned (OpenSpec.ofChange walNoneWrong)

/-- 'pannierlaw20.HeadCodes': WHATEVER THE INPUT: true; the input reads as it did. -/
def headCodesSpec : ChangeSpec := { name := "headCodes", fn := fun _ => fun
  | [d1, d2, d3] => { results := [.lit (.bool true)], args := [d1, d2, d3] }
  | _ => none }
def headCodesRow : OpenClaim := { program := "ytoebldemcgahnaagreatdoor", sum := "b73c8bf6c81a7e057eac8c8e0a1e9ff7cc2fd298e3fc8edf2c3602b1b054feab", func := "pannier/pannierlaw20.HeadCodes", spec := "headCodes", inPlace := ["internal/reflectlite.ValueOf", "(internal/reflectlite.Value).Type", "(internal/reflectlite.Value).IsNil", "internal/reflectlite.TypeOf", "(internal/reflectlite.Value).Elem", "(internal/reflectlite.Value).Set", "internal/abi.NoEscape", "internal/bytealg.MakeNoZero", "internal/bytealg.IndexByteString", "internal/bytealg.IndexString"], unfollowed := true, recurses := true, named := ["errors.errorType", "pannier/crc.table", "pannier/disk.errArg", "pannier/disk.errDead", "pannier/frame.errTorn", "pannier/frame.errOther", "pannier/frame.errSum", "unicode/utf8.first", "unicode/utf8.acceptRanges", "internal/bytealg.MaxLen"], apart := false, laid := [("pannier/crc.table", laid_pannier_crc_table), ("unicode/utf8.acceptRanges", laid_unicode_utf8_acceptRanges), ("errors.errorType", laid_errors_errorType), ("pannier/disk.errDead", laid_pannier_disk_errDead), ("pannier/disk.errArg", laid_pannier_disk_errArg), ("pannier/frame.errTorn", laid_pannier_frame_errTorn), ("pannier/frame.errOther", laid_pannier_frame_errOther), ("pannier/frame.errSum", laid_pannier_frame_errSum), ("unicode/utf8.first", laid_unicode_utf8_first)] }
def HeadCodesSaid : Prop := headCodesRow.holds Tryz.pinned (OpenSpec.ofChange headCodesSpec)

/-- ITS FALSE NEIGHBOUR: 'it returns false'. Refute it at one input. -/
def headCodesWrong : ChangeSpec := { name := "headCodes", fn := fun _ => fun
  | [d1, d2, d3] => { results := [.lit (.bool false)], args := [d1, d2, d3] }
  | _ => none }
def HeadCodesWrongFalsely : Prop := headCodesRow.holds Tryz.pinned (OpenSpec.ofChange headCodesWrong)

/-- 'pannierlaw20.HeadBack': WHATEVER THE INPUT: true; the input reads as it did. -/
def headBackSpec : ChangeSpec := { name := "headBack", fn := fun _ => fun
  | [d1, d2] => { results := [.lit (.bool true)], args := [d1, d2] }
  | _ => none }
def headBackRow : OpenClaim := { program := "ytoebldemcgahnaagreatdoor", sum := "b73c8bf6c81a7e057eac8c8e0a1e9ff7cc2fd298e3fc8edf2c3602b1b054feab", func := "pannier/pannierlaw20.HeadBack", spec := "headBack", inPlace := ["internal/reflectlite.ValueOf", "(internal/reflectlite.Value).Type", "(internal/reflectlite.Value).IsNil", "internal/reflectlite.TypeOf", "(internal/reflectlite.Value).Elem", "(internal/reflectlite.Value).Set", "internal/abi.NoEscape", "internal/bytealg.MakeNoZero", "internal/bytealg.IndexByteString", "internal/bytealg.IndexString"], unfollowed := true, recurses := true, named := ["errors.errorType", "pannier/crc.table", "pannier/disk.errArg", "pannier/disk.errDead", "pannier/frame.errTorn", "pannier/frame.errOther", "pannier/frame.errSum", "unicode/utf8.first", "unicode/utf8.acceptRanges", "internal/bytealg.MaxLen"], apart := false, laid := [("pannier/crc.table", laid_pannier_crc_table), ("unicode/utf8.acceptRanges", laid_unicode_utf8_acceptRanges), ("errors.errorType", laid_errors_errorType), ("pannier/disk.errDead", laid_pannier_disk_errDead), ("pannier/disk.errArg", laid_pannier_disk_errArg), ("pannier/frame.errTorn", laid_pannier_frame_errTorn), ("pannier/frame.errOther", laid_pannier_frame_errOther), ("pannier/frame.errSum", laid_pannier_frame_errSum), ("unicode/utf8.first", laid_unicode_utf8_first)] }
def HeadBackSaid : Prop := headBackRow.holds Tryz.pinned (OpenSpec.ofChange headBackSpec)

/-- ITS FALSE NEIGHBOUR: 'it returns false'. Refute it at one input. -/
def headBackWrong : ChangeSpec := { name := "headBack", fn := fun _ => fun
  | [d1, d2] => { results := [.lit (.bool false)], args := [d1, d2] }
  | _ => none }
def HeadBackWrongFalsely : Prop := headBackRow.holds Tryz.pinned (OpenSpec.ofChange headBackWrong)

/-- 'pannierlaw20.HeadSafe': WHATEVER THE INPUT: true; the input reads as it did. -/
def headSafeSpec : ChangeSpec := { name := "headSafe", fn := fun _ => fun
  | [d1, d2, d3] => { results := [.lit (.bool true)], args := [d1, d2, d3] }
  | _ => none }
def headSafeRow : OpenClaim := { program := "ytoebldemcgahnaagreatdoor", sum := "b73c8bf6c81a7e057eac8c8e0a1e9ff7cc2fd298e3fc8edf2c3602b1b054feab", func := "pannier/pannierlaw20.HeadSafe", spec := "headSafe", inPlace := ["internal/reflectlite.ValueOf", "(internal/reflectlite.Value).Type", "(internal/reflectlite.Value).IsNil", "internal/reflectlite.TypeOf", "(internal/reflectlite.Value).Elem", "(internal/reflectlite.Value).Set", "internal/abi.NoEscape", "internal/bytealg.MakeNoZero", "internal/bytealg.IndexByteString", "internal/bytealg.IndexString"], unfollowed := true, recurses := true, named := ["errors.errorType", "pannier/crc.table", "pannier/disk.errArg", "pannier/disk.errDead", "pannier/frame.errTorn", "pannier/frame.errOther", "pannier/frame.errSum", "unicode/utf8.first", "unicode/utf8.acceptRanges", "internal/bytealg.MaxLen"], apart := false, laid := [("pannier/crc.table", laid_pannier_crc_table), ("unicode/utf8.acceptRanges", laid_unicode_utf8_acceptRanges), ("errors.errorType", laid_errors_errorType), ("pannier/disk.errDead", laid_pannier_disk_errDead), ("pannier/disk.errArg", laid_pannier_disk_errArg), ("pannier/frame.errTorn", laid_pannier_frame_errTorn), ("pannier/frame.errOther", laid_pannier_frame_errOther), ("pannier/frame.errSum", laid_pannier_frame_errSum), ("unicode/utf8.first", laid_unicode_utf8_first)] }
def HeadSafeSaid : Prop := headSafeRow.holds Tryz.pinned (OpenSpec.ofChange headSafeSpec)

/-- ITS FALSE NEIGHBOUR: 'it returns false'. Refute it at one input. -/
def headSafeWrong : ChangeSpec := { name := "headSafe", fn := fun _ => fun
  | [d1, d2, d3] => { results := [.lit (.bool false)], args := [d1, d2, d3] }
  | _ => none }
def HeadSafeWrongFalsely : Prop := headSafeRow.holds Tryz.pinned (OpenSpec.ofChange headSafeWrong)

/-- 'pannierlaw21.WalFull': WHATEVER THE INPUT: true; the input reads as it did. -/
def walFullSpec : ChangeSpec := { name := "walFull", fn := fun _ => fun
  | [d1, d2] => { results := [.lit (.bool true)], args := [d1, d2] }
  | _ => none }
def walFullRow : OpenClaim := { program := "ytoebldemcgahnaagreatdoor", sum := "b73c8bf6c81a7e057eac8c8e0a1e9ff7cc2fd298e3fc8edf2c3602b1b054feab", func := "pannier/pannierlaw21.WalFull", spec := "walFull", inPlace := ["internal/reflectlite.TypeOf", "internal/abi.NoEscape", "internal/bytealg.MakeNoZero", "internal/reflectlite.ValueOf", "(internal/reflectlite.Value).Type", "(internal/reflectlite.Value).IsNil", "(internal/reflectlite.Value).Elem", "(internal/reflectlite.Value).Set", "internal/bytealg.IndexByteString", "internal/bytealg.IndexString"], unfollowed := true, recurses := true, named := ["pannier/disk.errArg", "pannier/disk.errDead", "pannier/frame.errTorn", "pannier/frame.errOther", "pannier/frame.errSum", "errors.errorType", "pannier/crc.table", "unicode/utf8.first", "unicode/utf8.acceptRanges", "pannier/wal.errDead", "pannier/wal.errLong", "pannier/wal.errFull", "internal/bytealg.MaxLen"], apart := false, laid := [("pannier/crc.table", laid_pannier_crc_table), ("unicode/utf8.acceptRanges", laid_unicode_utf8_acceptRanges), ("errors.errorType", laid_errors_errorType), ("pannier/disk.errDead", laid_pannier_disk_errDead), ("pannier/disk.errArg", laid_pannier_disk_errArg), ("pannier/frame.errTorn", laid_pannier_frame_errTorn), ("pannier/frame.errOther", laid_pannier_frame_errOther), ("pannier/frame.errSum", laid_pannier_frame_errSum), ("pannier/wal.errDead", laid_pannier_wal_errDead), ("pannier/wal.errLong", laid_pannier_wal_errLong), ("pannier/wal.errFull", laid_pannier_wal_errFull), ("unicode/utf8.first", laid_unicode_utf8_first)] }
def WalFullSaid : Prop := walFullRow.holds Tryz.pinned (OpenSpec.ofChange walFullSpec)

/-- ITS FALSE NEIGHBOUR: 'it returns false'. Refute it at one input. -/
def walFullWrong : ChangeSpec := { name := "walFull", fn := fun _ => fun
  | [d1, d2] => { results := [.lit (.bool false)], args := [d1, d2] }
  | _ => none }
def WalFullWrongFalsely : Prop := walFullRow.holds Tryz.pinned (OpenSpec.ofChange walFullWrong)

/-- 'pannierlaw21.WalPlays': WHATEVER THE INPUT: true; the input reads as it did. -/
def walPlaysSpec : ChangeSpec := { name := "walPlays", fn := fun _ => fun
  | [d1, d2, d3] => { results := [.lit (.bool true)], args := [d1, d2, d3] }
  | _ => none }
def walPlaysRow : OpenClaim := { program := "ytoebldemcgahnaagreatdoor", sum := "b73c8bf6c81a7e057eac8c8e0a1e9ff7cc2fd298e3fc8edf2c3602b1b054feab", func := "pannier/pannierlaw21.WalPlays", spec := "walPlays", inPlace := ["internal/reflectlite.TypeOf", "internal/abi.NoEscape", "internal/bytealg.MakeNoZero", "internal/reflectlite.ValueOf", "(internal/reflectlite.Value).Type", "(internal/reflectlite.Value).IsNil", "(internal/reflectlite.Value).Elem", "(internal/reflectlite.Value).Set", "internal/bytealg.IndexByteString", "internal/bytealg.IndexString"], unfollowed := true, recurses := true, named := ["pannier/disk.errArg", "pannier/disk.errDead", "pannier/frame.errTorn", "pannier/frame.errOther", "pannier/frame.errSum", "errors.errorType", "pannier/crc.table", "unicode/utf8.first", "unicode/utf8.acceptRanges", "pannier/wal.errDead", "pannier/wal.errLong", "pannier/wal.errFull", "internal/bytealg.MaxLen"], apart := false, laid := [("pannier/crc.table", laid_pannier_crc_table), ("unicode/utf8.acceptRanges", laid_unicode_utf8_acceptRanges), ("errors.errorType", laid_errors_errorType), ("pannier/disk.errDead", laid_pannier_disk_errDead), ("pannier/disk.errArg", laid_pannier_disk_errArg), ("pannier/frame.errTorn", laid_pannier_frame_errTorn), ("pannier/frame.errOther", laid_pannier_frame_errOther), ("pannier/frame.errSum", laid_pannier_frame_errSum), ("pannier/wal.errDead", laid_pannier_wal_errDead), ("pannier/wal.errLong", laid_pannier_wal_errLong), ("pannier/wal.errFull", laid_pannier_wal_errFull), ("unicode/utf8.first", laid_unicode_utf8_first)] }
def WalPlaysSaid : Prop := walPlaysRow.holds Tryz.pinned (OpenSpec.ofChange walPlaysSpec)

/-- ITS FALSE NEIGHBOUR: 'it returns false'. Refute it at one input. -/
def walPlaysWrong : ChangeSpec := { name := "walPlays", fn := fun _ => fun
  | [d1, d2, d3] => { results := [.lit (.bool false)], args := [d1, d2, d3] }
  | _ => none }
def WalPlaysWrongFalsely : Prop := walPlaysRow.holds Tryz.pinned (OpenSpec.ofChange walPlaysWrong)

/-- 'pannierlaw20.HeadReads': WHATEVER THE INPUT: true; the input reads as it did. -/
def headReadsSpec : ChangeSpec := { name := "headReads", fn := fun _ => fun
  | [d1, d2, d3] => { results := [.lit (.bool true)], args := [d1, d2, d3] }
  | _ => none }
def headReadsRow : OpenClaim := { program := "ytoebldemcgahnaagreatdoor", sum := "b73c8bf6c81a7e057eac8c8e0a1e9ff7cc2fd298e3fc8edf2c3602b1b054feab", func := "pannier/pannierlaw20.HeadReads", spec := "headReads", inPlace := ["internal/reflectlite.ValueOf", "(internal/reflectlite.Value).Type", "(internal/reflectlite.Value).IsNil", "internal/reflectlite.TypeOf", "(internal/reflectlite.Value).Elem", "(internal/reflectlite.Value).Set", "internal/abi.NoEscape", "internal/bytealg.MakeNoZero", "internal/bytealg.IndexByteString", "internal/bytealg.IndexString"], unfollowed := true, recurses := true, named := ["errors.errorType", "pannier/crc.table", "pannier/disk.errArg", "pannier/disk.errDead", "pannier/frame.errTorn", "pannier/frame.errOther", "pannier/frame.errSum", "unicode/utf8.first", "unicode/utf8.acceptRanges", "internal/bytealg.MaxLen"], apart := false, laid := [("pannier/crc.table", laid_pannier_crc_table), ("unicode/utf8.acceptRanges", laid_unicode_utf8_acceptRanges), ("errors.errorType", laid_errors_errorType), ("pannier/disk.errDead", laid_pannier_disk_errDead), ("pannier/disk.errArg", laid_pannier_disk_errArg), ("pannier/frame.errTorn", laid_pannier_frame_errTorn), ("pannier/frame.errOther", laid_pannier_frame_errOther), ("pannier/frame.errSum", laid_pannier_frame_errSum), ("unicode/utf8.first", laid_unicode_utf8_first)] }
def HeadReadsSaid : Prop := headReadsRow.holds Tryz.pinned (OpenSpec.ofChange headReadsSpec)

/-- ITS FALSE NEIGHBOUR: 'it returns false'. Refute it at one input. -/
def headReadsWrong : ChangeSpec := { name := "headReads", fn := fun _ => fun
  | [d1, d2, d3] => { results := [.lit (.bool false)], args := [d1, d2, d3] }
  | _ => none }
def HeadReadsWrongFalsely : Prop := headReadsRow.holds Tryz.pinned (OpenSpec.ofChange headReadsWrong)

/- THE SECOND FORM. 'bulk': how many values and letters a reading holds, each counted each time it is reached (what is shared counts as often as it is met; a slice's spare places count too). A statement '..UptoSaid' is the law's where the arguments, and the package variables that the reading takes, are together of bulk at most 1048576: NARROWER than '..Said'. Prove '..Said' where nothing that the law and all that it calls make is longer than what came in: it says more and counts as full. Else prove '..UptoSaid'. A law counts once. -/
mutual
def uptoBulk {H : Type} : DataW H → Nat
  | .lit (.string bytes) => bytes.length + 1
  | .lit _ => 1
  | .nil => 1
  | .ptr d => uptoBulk d + 1
  | .slice elems spare => uptoBulkAll elems + uptoBulkAll spare + 1
  | .agg parts => uptoBulkAll parts + 1
  | .iface _ d => uptoBulk d + 1
  | .map entries => uptoBulkEntries entries + 1
  | .held _ => 1
def uptoBulkAll {H : Type} : List (DataW H) → Nat
  | [] => 0
  | d :: r => uptoBulk d + uptoBulkAll r
def uptoBulkEntries {H : Type} : List (Lit × DataW H) → Nat
  | [] => 0
  | x :: r => uptoBulkEntry x + uptoBulkEntries r
def uptoBulkEntry {H : Type} : Lit × DataW H → Nat
  | (.string bytes, d) => bytes.length + uptoBulk d + 1
  | (_, d) => uptoBulk d + 1
 end
def uptoSmall : (H : Type) → List (DataW H) → Bool := fun _ ds => decide (uptoBulkAll ds ≤ 1048576)
def OpenSpec.upto (s : _root_.Go.ChangeSpec) : _root_.Go.OpenSpec := { _root_.Go.OpenSpec.ofChange s with cond := some uptoSmall }

/-- 'pannierlaw21.WalSafe', WHERE WHAT IT READS IS OF BULK AT MOST 1048576: true; the input reads as it did. -/
def walSafeUptoRow : OpenClaim := { program := "ytoebldemcgahnaagreatdoor", sum := "b73c8bf6c81a7e057eac8c8e0a1e9ff7cc2fd298e3fc8edf2c3602b1b054feab", func := "pannier/pannierlaw21.WalSafe", spec := "walSafe", inPlace := ["internal/reflectlite.TypeOf", "internal/abi.NoEscape", "internal/bytealg.MakeNoZero", "internal/reflectlite.ValueOf", "(internal/reflectlite.Value).Type", "(internal/reflectlite.Value).IsNil", "(internal/reflectlite.Value).Elem", "(internal/reflectlite.Value).Set", "internal/bytealg.IndexByteString", "internal/bytealg.IndexString"], unfollowed := true, recurses := true, named := ["pannier/disk.errArg", "pannier/disk.errDead", "pannier/frame.errTorn", "pannier/frame.errOther", "pannier/frame.errSum", "errors.errorType", "pannier/crc.table", "unicode/utf8.first", "unicode/utf8.acceptRanges", "pannier/wal.errDead", "pannier/wal.errLong", "pannier/wal.errFull", "internal/bytealg.MaxLen"], apart := false, laid := [("pannier/crc.table", laid_pannier_crc_table), ("unicode/utf8.acceptRanges", laid_unicode_utf8_acceptRanges), ("errors.errorType", laid_errors_errorType), ("pannier/disk.errDead", laid_pannier_disk_errDead), ("pannier/disk.errArg", laid_pannier_disk_errArg), ("pannier/frame.errTorn", laid_pannier_frame_errTorn), ("pannier/frame.errOther", laid_pannier_frame_errOther), ("pannier/frame.errSum", laid_pannier_frame_errSum), ("pannier/wal.errDead", laid_pannier_wal_errDead), ("pannier/wal.errLong", laid_pannier_wal_errLong), ("pannier/wal.errFull", laid_pannier_wal_errFull), ("unicode/utf8.first", laid_unicode_utf8_first)], narrowed := true }
def WalSafeUptoSaid : Prop := walSafeUptoRow.holds Tryz.pinned (OpenSpec.upto walSafeSpec)

/-- 'pannierlaw21.WalNumbers', WHERE WHAT IT READS IS OF BULK AT MOST 1048576: true; the input reads as it did. -/
def walNumbersUptoRow : OpenClaim := { program := "ytoebldemcgahnaagreatdoor", sum := "b73c8bf6c81a7e057eac8c8e0a1e9ff7cc2fd298e3fc8edf2c3602b1b054feab", func := "pannier/pannierlaw21.WalNumbers", spec := "walNumbers", inPlace := ["internal/reflectlite.TypeOf", "internal/abi.NoEscape", "internal/bytealg.MakeNoZero", "internal/reflectlite.ValueOf", "(internal/reflectlite.Value).Type", "(internal/reflectlite.Value).IsNil", "(internal/reflectlite.Value).Elem", "(internal/reflectlite.Value).Set", "internal/bytealg.IndexByteString", "internal/bytealg.IndexString"], unfollowed := true, recurses := true, named := ["pannier/disk.errArg", "pannier/disk.errDead", "pannier/frame.errTorn", "pannier/frame.errOther", "pannier/frame.errSum", "errors.errorType", "pannier/crc.table", "unicode/utf8.first", "unicode/utf8.acceptRanges", "pannier/wal.errDead", "pannier/wal.errLong", "pannier/wal.errFull", "internal/bytealg.MaxLen"], apart := false, laid := [("pannier/crc.table", laid_pannier_crc_table), ("unicode/utf8.acceptRanges", laid_unicode_utf8_acceptRanges), ("errors.errorType", laid_errors_errorType), ("pannier/disk.errDead", laid_pannier_disk_errDead), ("pannier/disk.errArg", laid_pannier_disk_errArg), ("pannier/frame.errTorn", laid_pannier_frame_errTorn), ("pannier/frame.errOther", laid_pannier_frame_errOther), ("pannier/frame.errSum", laid_pannier_frame_errSum), ("pannier/wal.errDead", laid_pannier_wal_errDead), ("pannier/wal.errLong", laid_pannier_wal_errLong), ("pannier/wal.errFull", laid_pannier_wal_errFull), ("unicode/utf8.first", laid_unicode_utf8_first)], narrowed := true }
def WalNumbersUptoSaid : Prop := walNumbersUptoRow.holds Tryz.pinned (OpenSpec.upto walNumbersSpec)

/-- 'pannierlaw21.WalEmpty', WHERE WHAT IT READS IS OF BULK AT MOST 1048576: true; the input reads as it did. -/
def walEmptyUptoRow : OpenClaim := { program := "ytoebldemcgahnaagreatdoor", sum := "b73c8bf6c81a7e057eac8c8e0a1e9ff7cc2fd298e3fc8edf2c3602b1b054feab", func := "pannier/pannierlaw21.WalEmpty", spec := "walEmpty", inPlace := ["internal/reflectlite.TypeOf", "internal/abi.NoEscape", "internal/bytealg.MakeNoZero", "internal/reflectlite.ValueOf", "(internal/reflectlite.Value).Type", "(internal/reflectlite.Value).IsNil", "(internal/reflectlite.Value).Elem", "(internal/reflectlite.Value).Set", "internal/bytealg.IndexByteString", "internal/bytealg.IndexString"], unfollowed := true, recurses := true, named := ["pannier/disk.errArg", "pannier/disk.errDead", "pannier/frame.errTorn", "pannier/frame.errOther", "pannier/frame.errSum", "errors.errorType", "pannier/crc.table", "unicode/utf8.first", "unicode/utf8.acceptRanges", "pannier/wal.errDead", "pannier/wal.errLong", "pannier/wal.errFull", "internal/bytealg.MaxLen"], apart := false, laid := [("pannier/crc.table", laid_pannier_crc_table), ("unicode/utf8.acceptRanges", laid_unicode_utf8_acceptRanges), ("errors.errorType", laid_errors_errorType), ("pannier/disk.errDead", laid_pannier_disk_errDead), ("pannier/disk.errArg", laid_pannier_disk_errArg), ("pannier/frame.errTorn", laid_pannier_frame_errTorn), ("pannier/frame.errOther", laid_pannier_frame_errOther), ("pannier/frame.errSum", laid_pannier_frame_errSum), ("pannier/wal.errDead", laid_pannier_wal_errDead), ("pannier/wal.errLong", laid_pannier_wal_errLong), ("pannier/wal.errFull", laid_pannier_wal_errFull), ("unicode/utf8.first", laid_unicode_utf8_first)], narrowed := true }
def WalEmptyUptoSaid : Prop := walEmptyUptoRow.holds Tryz.pinned (OpenSpec.upto walEmptySpec)

/-- 'pannierlaw21.WalNone', WHERE WHAT IT READS IS OF BULK AT MOST 1048576: true; the input reads as it did. -/
def walNoneUptoRow : OpenClaim := { program := "ytoebldemcgahnaagreatdoor", sum := "b73c8bf6c81a7e057eac8c8e0a1e9ff7cc2fd298e3fc8edf2c3602b1b054feab", func := "pannier/pannierlaw21.WalNone", spec := "walNone", inPlace := ["internal/reflectlite.TypeOf", "internal/abi.NoEscape", "internal/bytealg.MakeNoZero", "internal/reflectlite.ValueOf", "(internal/reflectlite.Value).Type", "(internal/reflectlite.Value).IsNil", "(internal/reflectlite.Value).Elem", "(internal/reflectlite.Value).Set", "internal/bytealg.IndexByteString", "internal/bytealg.IndexString"], unfollowed := true, recurses := true, named := ["pannier/disk.errArg", "pannier/disk.errDead", "pannier/frame.errTorn", "pannier/frame.errOther", "pannier/frame.errSum", "errors.errorType", "pannier/crc.table", "unicode/utf8.first", "unicode/utf8.acceptRanges", "pannier/wal.errDead", "pannier/wal.errLong", "pannier/wal.errFull", "internal/bytealg.MaxLen"], apart := false, laid := [("pannier/crc.table", laid_pannier_crc_table), ("unicode/utf8.acceptRanges", laid_unicode_utf8_acceptRanges), ("errors.errorType", laid_errors_errorType), ("pannier/disk.errDead", laid_pannier_disk_errDead), ("pannier/disk.errArg", laid_pannier_disk_errArg), ("pannier/frame.errTorn", laid_pannier_frame_errTorn), ("pannier/frame.errOther", laid_pannier_frame_errOther), ("pannier/frame.errSum", laid_pannier_frame_errSum), ("pannier/wal.errDead", laid_pannier_wal_errDead), ("pannier/wal.errLong", laid_pannier_wal_errLong), ("pannier/wal.errFull", laid_pannier_wal_errFull), ("unicode/utf8.first", laid_unicode_utf8_first)], narrowed := true }
def WalNoneUptoSaid : Prop := walNoneUptoRow.holds Tryz.pinned (OpenSpec.upto walNoneSpec)

/-- 'pannierlaw20.HeadCodes', WHERE WHAT IT READS IS OF BULK AT MOST 1048576: true; the input reads as it did. -/
def headCodesUptoRow : OpenClaim := { program := "ytoebldemcgahnaagreatdoor", sum := "b73c8bf6c81a7e057eac8c8e0a1e9ff7cc2fd298e3fc8edf2c3602b1b054feab", func := "pannier/pannierlaw20.HeadCodes", spec := "headCodes", inPlace := ["internal/reflectlite.ValueOf", "(internal/reflectlite.Value).Type", "(internal/reflectlite.Value).IsNil", "internal/reflectlite.TypeOf", "(internal/reflectlite.Value).Elem", "(internal/reflectlite.Value).Set", "internal/abi.NoEscape", "internal/bytealg.MakeNoZero", "internal/bytealg.IndexByteString", "internal/bytealg.IndexString"], unfollowed := true, recurses := true, named := ["errors.errorType", "pannier/crc.table", "pannier/disk.errArg", "pannier/disk.errDead", "pannier/frame.errTorn", "pannier/frame.errOther", "pannier/frame.errSum", "unicode/utf8.first", "unicode/utf8.acceptRanges", "internal/bytealg.MaxLen"], apart := false, laid := [("pannier/crc.table", laid_pannier_crc_table), ("unicode/utf8.acceptRanges", laid_unicode_utf8_acceptRanges), ("errors.errorType", laid_errors_errorType), ("pannier/disk.errDead", laid_pannier_disk_errDead), ("pannier/disk.errArg", laid_pannier_disk_errArg), ("pannier/frame.errTorn", laid_pannier_frame_errTorn), ("pannier/frame.errOther", laid_pannier_frame_errOther), ("pannier/frame.errSum", laid_pannier_frame_errSum), ("unicode/utf8.first", laid_unicode_utf8_first)], narrowed := true }
def HeadCodesUptoSaid : Prop := headCodesUptoRow.holds Tryz.pinned (OpenSpec.upto headCodesSpec)

/-- 'pannierlaw20.HeadBack', WHERE WHAT IT READS IS OF BULK AT MOST 1048576: true; the input reads as it did. -/
def headBackUptoRow : OpenClaim := { program := "ytoebldemcgahnaagreatdoor", sum := "b73c8bf6c81a7e057eac8c8e0a1e9ff7cc2fd298e3fc8edf2c3602b1b054feab", func := "pannier/pannierlaw20.HeadBack", spec := "headBack", inPlace := ["internal/reflectlite.ValueOf", "(internal/reflectlite.Value).Type", "(internal/reflectlite.Value).IsNil", "internal/reflectlite.TypeOf", "(internal/reflectlite.Value).Elem", "(internal/reflectlite.Value).Set", "internal/abi.NoEscape", "internal/bytealg.MakeNoZero", "internal/bytealg.IndexByteString", "internal/bytealg.IndexString"], unfollowed := true, recurses := true, named := ["errors.errorType", "pannier/crc.table", "pannier/disk.errArg", "pannier/disk.errDead", "pannier/frame.errTorn", "pannier/frame.errOther", "pannier/frame.errSum", "unicode/utf8.first", "unicode/utf8.acceptRanges", "internal/bytealg.MaxLen"], apart := false, laid := [("pannier/crc.table", laid_pannier_crc_table), ("unicode/utf8.acceptRanges", laid_unicode_utf8_acceptRanges), ("errors.errorType", laid_errors_errorType), ("pannier/disk.errDead", laid_pannier_disk_errDead), ("pannier/disk.errArg", laid_pannier_disk_errArg), ("pannier/frame.errTorn", laid_pannier_frame_errTorn), ("pannier/frame.errOther", laid_pannier_frame_errOther), ("pannier/frame.errSum", laid_pannier_frame_errSum), ("unicode/utf8.first", laid_unicode_utf8_first)], narrowed := true }
def HeadBackUptoSaid : Prop := headBackUptoRow.holds Tryz.pinned (OpenSpec.upto headBackSpec)

/-- 'pannierlaw20.HeadSafe', WHERE WHAT IT READS IS OF BULK AT MOST 1048576: true; the input reads as it did. -/
def headSafeUptoRow : OpenClaim := { program := "ytoebldemcgahnaagreatdoor", sum := "b73c8bf6c81a7e057eac8c8e0a1e9ff7cc2fd298e3fc8edf2c3602b1b054feab", func := "pannier/pannierlaw20.HeadSafe", spec := "headSafe", inPlace := ["internal/reflectlite.ValueOf", "(internal/reflectlite.Value).Type", "(internal/reflectlite.Value).IsNil", "internal/reflectlite.TypeOf", "(internal/reflectlite.Value).Elem", "(internal/reflectlite.Value).Set", "internal/abi.NoEscape", "internal/bytealg.MakeNoZero", "internal/bytealg.IndexByteString", "internal/bytealg.IndexString"], unfollowed := true, recurses := true, named := ["errors.errorType", "pannier/crc.table", "pannier/disk.errArg", "pannier/disk.errDead", "pannier/frame.errTorn", "pannier/frame.errOther", "pannier/frame.errSum", "unicode/utf8.first", "unicode/utf8.acceptRanges", "internal/bytealg.MaxLen"], apart := false, laid := [("pannier/crc.table", laid_pannier_crc_table), ("unicode/utf8.acceptRanges", laid_unicode_utf8_acceptRanges), ("errors.errorType", laid_errors_errorType), ("pannier/disk.errDead", laid_pannier_disk_errDead), ("pannier/disk.errArg", laid_pannier_disk_errArg), ("pannier/frame.errTorn", laid_pannier_frame_errTorn), ("pannier/frame.errOther", laid_pannier_frame_errOther), ("pannier/frame.errSum", laid_pannier_frame_errSum), ("unicode/utf8.first", laid_unicode_utf8_first)], narrowed := true }
def HeadSafeUptoSaid : Prop := headSafeUptoRow.holds Tryz.pinned (OpenSpec.upto headSafeSpec)

/-- 'pannierlaw21.WalFull', WHERE WHAT IT READS IS OF BULK AT MOST 1048576: true; the input reads as it did. -/
def walFullUptoRow : OpenClaim := { program := "ytoebldemcgahnaagreatdoor", sum := "b73c8bf6c81a7e057eac8c8e0a1e9ff7cc2fd298e3fc8edf2c3602b1b054feab", func := "pannier/pannierlaw21.WalFull", spec := "walFull", inPlace := ["internal/reflectlite.TypeOf", "internal/abi.NoEscape", "internal/bytealg.MakeNoZero", "internal/reflectlite.ValueOf", "(internal/reflectlite.Value).Type", "(internal/reflectlite.Value).IsNil", "(internal/reflectlite.Value).Elem", "(internal/reflectlite.Value).Set", "internal/bytealg.IndexByteString", "internal/bytealg.IndexString"], unfollowed := true, recurses := true, named := ["pannier/disk.errArg", "pannier/disk.errDead", "pannier/frame.errTorn", "pannier/frame.errOther", "pannier/frame.errSum", "errors.errorType", "pannier/crc.table", "unicode/utf8.first", "unicode/utf8.acceptRanges", "pannier/wal.errDead", "pannier/wal.errLong", "pannier/wal.errFull", "internal/bytealg.MaxLen"], apart := false, laid := [("pannier/crc.table", laid_pannier_crc_table), ("unicode/utf8.acceptRanges", laid_unicode_utf8_acceptRanges), ("errors.errorType", laid_errors_errorType), ("pannier/disk.errDead", laid_pannier_disk_errDead), ("pannier/disk.errArg", laid_pannier_disk_errArg), ("pannier/frame.errTorn", laid_pannier_frame_errTorn), ("pannier/frame.errOther", laid_pannier_frame_errOther), ("pannier/frame.errSum", laid_pannier_frame_errSum), ("pannier/wal.errDead", laid_pannier_wal_errDead), ("pannier/wal.errLong", laid_pannier_wal_errLong), ("pannier/wal.errFull", laid_pannier_wal_errFull), ("unicode/utf8.first", laid_unicode_utf8_first)], narrowed := true }
def WalFullUptoSaid : Prop := walFullUptoRow.holds Tryz.pinned (OpenSpec.upto walFullSpec)

/-- 'pannierlaw21.WalPlays', WHERE WHAT IT READS IS OF BULK AT MOST 1048576: true; the input reads as it did. -/
def walPlaysUptoRow : OpenClaim := { program := "ytoebldemcgahnaagreatdoor", sum := "b73c8bf6c81a7e057eac8c8e0a1e9ff7cc2fd298e3fc8edf2c3602b1b054feab", func := "pannier/pannierlaw21.WalPlays", spec := "walPlays", inPlace := ["internal/reflectlite.TypeOf", "internal/abi.NoEscape", "internal/bytealg.MakeNoZero", "internal/reflectlite.ValueOf", "(internal/reflectlite.Value).Type", "(internal/reflectlite.Value).IsNil", "(internal/reflectlite.Value).Elem", "(internal/reflectlite.Value).Set", "internal/bytealg.IndexByteString", "internal/bytealg.IndexString"], unfollowed := true, recurses := true, named := ["pannier/disk.errArg", "pannier/disk.errDead", "pannier/frame.errTorn", "pannier/frame.errOther", "pannier/frame.errSum", "errors.errorType", "pannier/crc.table", "unicode/utf8.first", "unicode/utf8.acceptRanges", "pannier/wal.errDead", "pannier/wal.errLong", "pannier/wal.errFull", "internal/bytealg.MaxLen"], apart := false, laid := [("pannier/crc.table", laid_pannier_crc_table), ("unicode/utf8.acceptRanges", laid_unicode_utf8_acceptRanges), ("errors.errorType", laid_errors_errorType), ("pannier/disk.errDead", laid_pannier_disk_errDead), ("pannier/disk.errArg", laid_pannier_disk_errArg), ("pannier/frame.errTorn", laid_pannier_frame_errTorn), ("pannier/frame.errOther", laid_pannier_frame_errOther), ("pannier/frame.errSum", laid_pannier_frame_errSum), ("pannier/wal.errDead", laid_pannier_wal_errDead), ("pannier/wal.errLong", laid_pannier_wal_errLong), ("pannier/wal.errFull", laid_pannier_wal_errFull), ("unicode/utf8.first", laid_unicode_utf8_first)], narrowed := true }
def WalPlaysUptoSaid : Prop := walPlaysUptoRow.holds Tryz.pinned (OpenSpec.upto walPlaysSpec)

/-- 'pannierlaw20.HeadReads', WHERE WHAT IT READS IS OF BULK AT MOST 1048576: true; the input reads as it did. -/
def headReadsUptoRow : OpenClaim := { program := "ytoebldemcgahnaagreatdoor", sum := "b73c8bf6c81a7e057eac8c8e0a1e9ff7cc2fd298e3fc8edf2c3602b1b054feab", func := "pannier/pannierlaw20.HeadReads", spec := "headReads", inPlace := ["internal/reflectlite.ValueOf", "(internal/reflectlite.Value).Type", "(internal/reflectlite.Value).IsNil", "internal/reflectlite.TypeOf", "(internal/reflectlite.Value).Elem", "(internal/reflectlite.Value).Set", "internal/abi.NoEscape", "internal/bytealg.MakeNoZero", "internal/bytealg.IndexByteString", "internal/bytealg.IndexString"], unfollowed := true, recurses := true, named := ["errors.errorType", "pannier/crc.table", "pannier/disk.errArg", "pannier/disk.errDead", "pannier/frame.errTorn", "pannier/frame.errOther", "pannier/frame.errSum", "unicode/utf8.first", "unicode/utf8.acceptRanges", "internal/bytealg.MaxLen"], apart := false, laid := [("pannier/crc.table", laid_pannier_crc_table), ("unicode/utf8.acceptRanges", laid_unicode_utf8_acceptRanges), ("errors.errorType", laid_errors_errorType), ("pannier/disk.errDead", laid_pannier_disk_errDead), ("pannier/disk.errArg", laid_pannier_disk_errArg), ("pannier/frame.errTorn", laid_pannier_frame_errTorn), ("pannier/frame.errOther", laid_pannier_frame_errOther), ("pannier/frame.errSum", laid_pannier_frame_errSum), ("unicode/utf8.first", laid_unicode_utf8_first)], narrowed := true }
def HeadReadsUptoSaid : Prop := headReadsUptoRow.holds Tryz.pinned (OpenSpec.upto headReadsSpec)

end Rows
end Go.Proofs.YtoebldemcgahnaaGreatDoor
