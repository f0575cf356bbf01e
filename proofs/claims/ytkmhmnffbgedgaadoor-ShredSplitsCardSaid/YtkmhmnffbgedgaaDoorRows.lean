/-
  NARROWER THAN 'FOR EVERY INPUT', by the rows' own cells (each row's printed sentence says how): ShredJoins: laid · ShredSplits: loops, laid.
  DERIVED. THE GIVEN ROWS OF THIS SEAT. 2 by the template 'for every input the law returns true; each argument reads behind the call as it read before'; 0 by the template 'total and deterministic' (their statements: YtkmhmnffbgedgaaDoorTotals.lean).
  GIVEN WITH THE SEED: the statements are not yours to turn. If you find one false, say at which input.
  Laid BY PROGRAM, IN A SANDBOX (cutbox-rows.mjs): the forced cells as the released guide's own fill.sh prints them over the translation d0df1df3a7151d10… (all of the seat's roots in one cut). By AI agents, Wed Nov 11 2026. No macro, syntax, notation, axiom, sorry.
-/
import Derived.Test.YtkmhmnffbgedgaaDoorChecked
import GoSem.PinnedTables
import GoSem.Claim
import GoSem.ClaimJoined
import GoSem.ClaimMapViews
import Derived.JoinedTies
import Derived.KernelRfl
namespace Go.Proofs.YtkmhmnffbgedgaaDoor
/- THE CELL 'sum', in the pinned program and in every row, IS THE sha256 OF THE DUMP (.gsa) THAT YtkmhmnffbgedgaaDoorProg.lean LOADS. Nothing in Lean hashes anything: it is a label: what it is worth is what the hold of that sum in a sandbox is worth. -/
noncomputable def Tryd.pinned : Pinned := { name := "ytkmhmnffbgedgaadoor", sum := "d0df1df3a7151d108b512d2dc60ad60954f29a2e81cf6ef2cebb470ccae09754", checked := Tryd.checked }
namespace Rows
def none {H : Type} : Left H := { results := [], args := [] }

/- WHAT THE LISTED PACKAGE-LEVEL VARIABLES READ AS WHEN THE CALL BEGINS. Each datum BY PROGRAM (the guide's laid-datum.mjs) off the statement by which the dump's own 'gosem.cut.vars' lays the variable. In a bare row this is a premise. The card (YtkmhmnffbgedgaaDoorCards.lean) ties it to the program's text. -/
def laid_unicode_utf8_acceptRanges {H : Type} : DataW H := .agg [.agg [.lit (.int .u8 128), .lit (.int .u8 191)], .agg [.lit (.int .u8 160), .lit (.int .u8 191)], .agg [.lit (.int .u8 128), .lit (.int .u8 159)], .agg [.lit (.int .u8 144), .lit (.int .u8 191)], .agg [.lit (.int .u8 128), .lit (.int .u8 143)], .agg [.lit (.int .u8 0), .lit (.int .u8 0)], .agg [.lit (.int .u8 0), .lit (.int .u8 0)], .agg [.lit (.int .u8 0), .lit (.int .u8 0)], .agg [.lit (.int .u8 0), .lit (.int .u8 0)], .agg [.lit (.int .u8 0), .lit (.int .u8 0)], .agg [.lit (.int .u8 0), .lit (.int .u8 0)], .agg [.lit (.int .u8 0), .lit (.int .u8 0)], .agg [.lit (.int .u8 0), .lit (.int .u8 0)], .agg [.lit (.int .u8 0), .lit (.int .u8 0)], .agg [.lit (.int .u8 0), .lit (.int .u8 0)], .agg [.lit (.int .u8 0), .lit (.int .u8 0)]]
def laid_errors_errorType {H : Type} : DataW H := .iface "internal/reflectlite.rtype" (.agg [.ptr (.lit (.string [101, 114, 114, 111, 114]))])
def laid_shredcol_api_ErrText {H : Type} : DataW H := .iface "*errors.errorString" (.ptr (.agg [.lit (.string [115, 104, 114, 101, 100, 99, 111, 108, 58, 32, 116, 101, 120, 116])]))
def laid_shredcol_api_ErrBound {H : Type} : DataW H := .iface "*errors.errorString" (.ptr (.agg [.lit (.string [115, 104, 114, 101, 100, 99, 111, 108, 58, 32, 98, 111, 117, 110, 100])]))
def laid_shredcol_api_ErrShape {H : Type} : DataW H := .iface "*errors.errorString" (.ptr (.agg [.lit (.string [115, 104, 114, 101, 100, 99, 111, 108, 58, 32, 115, 104, 97, 112, 101])]))
def laid_shredcol_api_ErrKind {H : Type} : DataW H := .iface "*errors.errorString" (.ptr (.agg [.lit (.string [115, 104, 114, 101, 100, 99, 111, 108, 58, 32, 107, 105, 110, 100])]))
def laid_shredcol_api_ErrName {H : Type} : DataW H := .iface "*errors.errorString" (.ptr (.agg [.lit (.string [115, 104, 114, 101, 100, 99, 111, 108, 58, 32, 110, 97, 109, 101])]))
def laid_shredcol_api_ErrNone {H : Type} : DataW H := .iface "*errors.errorString" (.ptr (.agg [.lit (.string [115, 104, 114, 101, 100, 99, 111, 108, 58, 32, 110, 111, 110, 101])]))
def laid_shredcol_api_ErrSum {H : Type} : DataW H := .iface "*errors.errorString" (.ptr (.agg [.lit (.string [115, 104, 114, 101, 100, 99, 111, 108, 58, 32, 115, 117, 109])]))
def laid_shredcol_api_ErrSpace {H : Type} : DataW H := .iface "*errors.errorString" (.ptr (.agg [.lit (.string [115, 104, 114, 101, 100, 99, 111, 108, 58, 32, 115, 112, 97, 99, 101])]))
/-- One of Go's own tables, pinned by name: the form's constant. -/
def laid_unicode_utf8_first : DataW Unit := Go.Pinned.utf8First

/-- 'shredcollaw2.ShredJoins': WHATEVER THE INPUT: true; the input reads as it did. -/
def shredJoinsSpec : ChangeSpec := { name := "shredJoins", fn := fun _ => fun
  | [d1, d2] => { results := [.lit (.bool true)], args := [d1, d2] }
  | _ => none }
def shredJoinsRow : OpenClaim := { program := "ytkmhmnffbgedgaadoor", sum := "d0df1df3a7151d108b512d2dc60ad60954f29a2e81cf6ef2cebb470ccae09754", func := "shredcol/shredcollaw2.ShredJoins", spec := "shredJoins", inPlace := ["internal/bytealg.IndexByteString", "internal/bytealg.IndexString", "internal/reflectlite.ValueOf", "(internal/reflectlite.Value).Type", "(internal/reflectlite.Value).IsNil", "internal/reflectlite.TypeOf", "(internal/reflectlite.Value).Elem", "(internal/reflectlite.Value).Set"], unfollowed := true, recurses := true, named := ["shredcol/api.ErrBound", "shredcol/api.ErrShape", "shredcol/api.ErrName", "unicode/utf8.first", "unicode/utf8.acceptRanges", "shredcol/api.ErrKind", "shredcol/api.ErrText", "shredcol/api.ErrNone", "shredcol/api.ErrSum", "shredcol/api.ErrSpace", "errors.errorType", "internal/bytealg.MaxLen"], apart := false, laid := [("unicode/utf8.acceptRanges", laid_unicode_utf8_acceptRanges), ("errors.errorType", laid_errors_errorType), ("shredcol/api.ErrText", laid_shredcol_api_ErrText), ("shredcol/api.ErrBound", laid_shredcol_api_ErrBound), ("shredcol/api.ErrShape", laid_shredcol_api_ErrShape), ("shredcol/api.ErrKind", laid_shredcol_api_ErrKind), ("shredcol/api.ErrName", laid_shredcol_api_ErrName), ("shredcol/api.ErrNone", laid_shredcol_api_ErrNone), ("shredcol/api.ErrSum", laid_shredcol_api_ErrSum), ("shredcol/api.ErrSpace", laid_shredcol_api_ErrSpace), ("unicode/utf8.first", laid_unicode_utf8_first)] }
def ShredJoinsSaid : Prop := shredJoinsRow.holds Tryd.pinned (OpenSpec.ofChange shredJoinsSpec)

/-- ITS FALSE NEIGHBOUR: 'it returns false'. Refute it at one input. -/
def shredJoinsWrong : ChangeSpec := { name := "shredJoins", fn := fun _ => fun
  | [d1, d2] => { results := [.lit (.bool false)], args := [d1, d2] }
  | _ => none }
def ShredJoinsWrongFalsely : Prop := shredJoinsRow.holds Tryd.pinned (OpenSpec.ofChange shredJoinsWrong)

/-- 'shredcollaw2.ShredSplits': WHATEVER THE INPUT: true; the input reads as it did. -/
def shredSplitsSpec : ChangeSpec := { name := "shredSplits", fn := fun _ => fun
  | [d1, d2, d3, d4] => { results := [.lit (.bool true)], args := [d1, d2, d3, d4] }
  | _ => none }
def shredSplitsRow : OpenClaim := { program := "ytkmhmnffbgedgaadoor", sum := "d0df1df3a7151d108b512d2dc60ad60954f29a2e81cf6ef2cebb470ccae09754", func := "shredcol/shredcollaw2.ShredSplits", spec := "shredSplits", inPlace := ["internal/bytealg.IndexByteString", "internal/bytealg.IndexString"], unfollowed := true, recurses := true, named := ["shredcol/api.ErrBound", "shredcol/api.ErrShape", "shredcol/api.ErrName", "unicode/utf8.first", "unicode/utf8.acceptRanges", "shredcol/api.ErrKind", "shredcol/api.ErrNone", "internal/bytealg.MaxLen"], loops := true, apart := false, laid := [("unicode/utf8.acceptRanges", laid_unicode_utf8_acceptRanges), ("shredcol/api.ErrBound", laid_shredcol_api_ErrBound), ("shredcol/api.ErrShape", laid_shredcol_api_ErrShape), ("shredcol/api.ErrKind", laid_shredcol_api_ErrKind), ("shredcol/api.ErrName", laid_shredcol_api_ErrName), ("shredcol/api.ErrNone", laid_shredcol_api_ErrNone), ("unicode/utf8.first", laid_unicode_utf8_first)] }
def ShredSplitsSaid : Prop := shredSplitsRow.holds Tryd.pinned (OpenSpec.ofChange shredSplitsSpec)

/-- ITS FALSE NEIGHBOUR: 'it returns false'. Refute it at one input. -/
def shredSplitsWrong : ChangeSpec := { name := "shredSplits", fn := fun _ => fun
  | [d1, d2, d3, d4] => { results := [.lit (.bool false)], args := [d1, d2, d3, d4] }
  | _ => none }
def ShredSplitsWrongFalsely : Prop := shredSplitsRow.holds Tryd.pinned (OpenSpec.ofChange shredSplitsWrong)

/- THE SECOND FORM. 'bulk': how many values and letters a reading holds, each counted each time it is reached (what is shared counts as often as it is met; a slice's spare places count too). A statement '..UptoSaid' is the law's where the arguments, and the package variables that the reading takes, are together of bulk at most 1048576: NARROWER than '..Said'. Prove '..Said' where nothing that the law and all that it calls make is longer than what came in: it says more and counts as full. Else prove '..UptoSaid'. A law counts once. -/
mutual
def uptoBulk {H : Type} : DataW H → Nat
  | .lit (.string bytes) => bytes.length + 1
  | .lit _ => 1
  | .nil => 1
  | .ptr d => uptoBulk d + 1
  | .slice elems spare => uptoBulkAll elems + uptoBulkAll spare + 1
  | .agg parts => uptoBulkAll parts + 1
  | .iface _ d => uptoBulk d + 1
  | .map entries => uptoBulkEntries entries + 1
  | .held _ => 1
def uptoBulkAll {H : Type} : List (DataW H) → Nat
  | [] => 0
  | d :: r => uptoBulk d + uptoBulkAll r
def uptoBulkEntries {H : Type} : List (Lit × DataW H) → Nat
  | [] => 0
  | x :: r => uptoBulkEntry x + uptoBulkEntries r
def uptoBulkEntry {H : Type} : Lit × DataW H → Nat
  | (.string bytes, d) => bytes.length + uptoBulk d + 1
  | (_, d) => uptoBulk d + 1
 end
def uptoSmall : (H : Type) → List (DataW H) → Bool := fun _ ds => decide (uptoBulkAll ds ≤ 1048576)
def OpenSpec.upto (s : _root_.Go.ChangeSpec) : _root_.Go.OpenSpec := { _root_.Go.OpenSpec.ofChange s with cond := some uptoSmall }

/-- 'shredcollaw2.ShredJoins', WHERE WHAT IT READS IS OF BULK AT MOST 1048576: true; the input reads as it did. -/
def shredJoinsUptoRow : OpenClaim := { program := "ytkmhmnffbgedgaadoor", sum := "d0df1df3a7151d108b512d2dc60ad60954f29a2e81cf6ef2cebb470ccae09754", func := "shredcol/shredcollaw2.ShredJoins", spec := "shredJoins", inPlace := ["internal/bytealg.IndexByteString", "internal/bytealg.IndexString", "internal/reflectlite.ValueOf", "(internal/reflectlite.Value).Type", "(internal/reflectlite.Value).IsNil", "internal/reflectlite.TypeOf", "(internal/reflectlite.Value).Elem", "(internal/reflectlite.Value).Set"], unfollowed := true, recurses := true, named := ["shredcol/api.ErrBound", "shredcol/api.ErrShape", "shredcol/api.ErrName", "unicode/utf8.first", "unicode/utf8.acceptRanges", "shredcol/api.ErrKind", "shredcol/api.ErrText", "shredcol/api.ErrNone", "shredcol/api.ErrSum", "shredcol/api.ErrSpace", "errors.errorType", "internal/bytealg.MaxLen"], apart := false, laid := [("unicode/utf8.acceptRanges", laid_unicode_utf8_acceptRanges), ("errors.errorType", laid_errors_errorType), ("shredcol/api.ErrText", laid_shredcol_api_ErrText), ("shredcol/api.ErrBound", laid_shredcol_api_ErrBound), ("shredcol/api.ErrShape", laid_shredcol_api_ErrShape), ("shredcol/api.ErrKind", laid_shredcol_api_ErrKind), ("shredcol/api.ErrName", laid_shredcol_api_ErrName), ("shredcol/api.ErrNone", laid_shredcol_api_ErrNone), ("shredcol/api.ErrSum", laid_shredcol_api_ErrSum), ("shredcol/api.ErrSpace", laid_shredcol_api_ErrSpace), ("unicode/utf8.first", laid_unicode_utf8_first)], narrowed := true }
def ShredJoinsUptoSaid : Prop := shredJoinsUptoRow.holds Tryd.pinned (OpenSpec.upto shredJoinsSpec)

/-- 'shredcollaw2.ShredSplits', WHERE WHAT IT READS IS OF BULK AT MOST 1048576: true; the input reads as it did. -/
def shredSplitsUptoRow : OpenClaim := { program := "ytkmhmnffbgedgaadoor", sum := "d0df1df3a7151d108b512d2dc60ad60954f29a2e81cf6ef2cebb470ccae09754", func := "shredcol/shredcollaw2.ShredSplits", spec := "shredSplits", inPlace := ["internal/bytealg.IndexByteString", "internal/bytealg.IndexString"], unfollowed := true, recurses := true, named := ["shredcol/api.ErrBound", "shredcol/api.ErrShape", "shredcol/api.ErrName", "unicode/utf8.first", "unicode/utf8.acceptRanges", "shredcol/api.ErrKind", "shredcol/api.ErrNone", "internal/bytealg.MaxLen"], loops := true, apart := false, laid := [("unicode/utf8.acceptRanges", laid_unicode_utf8_acceptRanges), ("shredcol/api.ErrBound", laid_shredcol_api_ErrBound), ("shredcol/api.ErrShape", laid_shredcol_api_ErrShape), ("shredcol/api.ErrKind", laid_shredcol_api_ErrKind), ("shredcol/api.ErrName", laid_shredcol_api_ErrName), ("shredcol/api.ErrNone", laid_shredcol_api_ErrNone), ("unicode/utf8.first", laid_unicode_utf8_first)], narrowed := true }
def ShredSplitsUptoSaid : Prop := shredSplitsUptoRow.holds Tryd.pinned (OpenSpec.upto shredSplitsSpec)

end Rows
end Go.Proofs.YtkmhmnffbgedgaaDoor
