/-
  NARROWER THAN 'FOR EVERY INPUT', by the rows' own cells (each row's printed sentence says how): WireTwice: laid · BitsWidth: laid · Names: laid · BitsTwice: laid · WireReads: laid · WireFixed: laid · WireText: laid · BitsPack: laid · BitsUnpack: laid · BitsReads: laid · BitsRuns: laid.
  DERIVED. THE GIVEN ROWS OF THIS SEAT. 11 by the template 'for every input the law returns true; each argument reads behind the call as it read before'; 0 by the template 'total and deterministic' (their statements: YtehklkmnbhgebaaDoorTotals.lean).
  GIVEN WITH THE SEED: the statements are not yours to turn. If you find one false, say at which input.
  Laid BY PROGRAM, IN A SANDBOX (cutbox-rows.mjs): the forced cells as the released guide's own fill.sh prints them over the translation fbb4df145bff33da… (all of the seat's roots in one cut). By AI agents, Wed Nov 11 2026. No macro, syntax, notation, axiom, sorry.
-/
import Derived.Test.YtehklkmnbhgebaaDoorChecked
import GoSem.Claim
import GoSem.ClaimJoined
import GoSem.ClaimMapViews
import Derived.JoinedTies
import Derived.KernelRfl
namespace Go.Proofs.YtehklkmnbhgebaaDoor
/- THE CELL 'sum', in the pinned program and in every row, IS THE sha256 OF THE DUMP (.gsa) THAT YtehklkmnbhgebaaDoorProg.lean LOADS. Nothing in Lean hashes anything: it is a label: what it is worth is what the hold of that sum in a sandbox is worth. -/
noncomputable def Tryd.pinned : Pinned := { name := "ytehklkmnbhgebaadoor", sum := "fbb4df145bff33da45850ec73ddec85da5b42614b64c03e95a62288cdc3265e6", checked := Tryd.checked }
namespace Rows
def none {H : Type} : Left H := { results := [], args := [] }

/- WHAT THE LISTED PACKAGE-LEVEL VARIABLES READ AS WHEN THE CALL BEGINS. Each datum BY PROGRAM (the guide's laid-datum.mjs) off the statement by which the dump's own 'gosem.cut.vars' lays the variable. In a bare row this is a premise. The card (YtehklkmnbhgebaaDoorCards.lean) ties it to the program's text. -/
def laid_shredcol_api_ErrText {H : Type} : DataW H := .iface "*errors.errorString" (.ptr (.agg [.lit (.string [115, 104, 114, 101, 100, 99, 111, 108, 58, 32, 116, 101, 120, 116])]))
def laid_shredcol_api_ErrBound {H : Type} : DataW H := .iface "*errors.errorString" (.ptr (.agg [.lit (.string [115, 104, 114, 101, 100, 99, 111, 108, 58, 32, 98, 111, 117, 110, 100])]))
def laid_shredcol_api_ErrShape {H : Type} : DataW H := .iface "*errors.errorString" (.ptr (.agg [.lit (.string [115, 104, 114, 101, 100, 99, 111, 108, 58, 32, 115, 104, 97, 112, 101])]))
def laid_errors_errorType {H : Type} : DataW H := .iface "internal/reflectlite.rtype" (.agg [.ptr (.lit (.string [101, 114, 114, 111, 114]))])
def laid_shredcol_api_ErrKind {H : Type} : DataW H := .iface "*errors.errorString" (.ptr (.agg [.lit (.string [115, 104, 114, 101, 100, 99, 111, 108, 58, 32, 107, 105, 110, 100])]))
def laid_shredcol_api_ErrName {H : Type} : DataW H := .iface "*errors.errorString" (.ptr (.agg [.lit (.string [115, 104, 114, 101, 100, 99, 111, 108, 58, 32, 110, 97, 109, 101])]))
def laid_shredcol_api_ErrNone {H : Type} : DataW H := .iface "*errors.errorString" (.ptr (.agg [.lit (.string [115, 104, 114, 101, 100, 99, 111, 108, 58, 32, 110, 111, 110, 101])]))
def laid_shredcol_api_ErrSum {H : Type} : DataW H := .iface "*errors.errorString" (.ptr (.agg [.lit (.string [115, 104, 114, 101, 100, 99, 111, 108, 58, 32, 115, 117, 109])]))
def laid_shredcol_api_ErrSpace {H : Type} : DataW H := .iface "*errors.errorString" (.ptr (.agg [.lit (.string [115, 104, 114, 101, 100, 99, 111, 108, 58, 32, 115, 112, 97, 99, 101])]))

/-- 'shredcollaw1.WireTwice': WHATEVER THE INPUT: true; the input reads as it did. -/
def wireTwiceSpec : ChangeSpec := { name := "wireTwice", fn := fun _ => fun
  | [d1, d2, d3, d4] => { results := [.lit (.bool true)], args := [d1, d2, d3, d4] }
  | _ => none }
def wireTwiceRow : OpenClaim := { program := "ytehklkmnbhgebaadoor", sum := "fbb4df145bff33da45850ec73ddec85da5b42614b64c03e95a62288cdc3265e6", func := "shredcol/shredcollaw1.WireTwice", spec := "wireTwice", named := ["shredcol/api.ErrText"], apart := false, laid := [("shredcol/api.ErrText", laid_shredcol_api_ErrText)] }
def WireTwiceSaid : Prop := wireTwiceRow.holds Tryd.pinned (OpenSpec.ofChange wireTwiceSpec)

/-- ITS FALSE NEIGHBOUR: 'it returns false'. Refute it at one input. -/
def wireTwiceWrong : ChangeSpec := { name := "wireTwice", fn := fun _ => fun
  | [d1, d2, d3, d4] => { results := [.lit (.bool false)], args := [d1, d2, d3, d4] }
  | _ => none }
def WireTwiceWrongFalsely : Prop := wireTwiceRow.holds Tryd.pinned (OpenSpec.ofChange wireTwiceWrong)

/-- 'shredcollaw1.BitsWidth': WHATEVER THE INPUT: true; the input reads as it did. -/
def bitsWidthSpec : ChangeSpec := { name := "bitsWidth", fn := fun _ => fun
  | [d] => { results := [.lit (.bool true)], args := [d] }
  | _ => none }
def bitsWidthRow : OpenClaim := { program := "ytehklkmnbhgebaadoor", sum := "fbb4df145bff33da45850ec73ddec85da5b42614b64c03e95a62288cdc3265e6", func := "shredcol/shredcollaw1.BitsWidth", spec := "bitsWidth", named := ["shredcol/api.ErrBound", "shredcol/api.ErrShape"], apart := false, laid := [("shredcol/api.ErrBound", laid_shredcol_api_ErrBound), ("shredcol/api.ErrShape", laid_shredcol_api_ErrShape)] }
def BitsWidthSaid : Prop := bitsWidthRow.holds Tryd.pinned (OpenSpec.ofChange bitsWidthSpec)

/-- ITS FALSE NEIGHBOUR: 'it returns false'. Refute it at one input. -/
def bitsWidthWrong : ChangeSpec := { name := "bitsWidth", fn := fun _ => fun
  | [d] => { results := [.lit (.bool false)], args := [d] }
  | _ => none }
def BitsWidthWrongFalsely : Prop := bitsWidthRow.holds Tryd.pinned (OpenSpec.ofChange bitsWidthWrong)

/-- 'shredcollaw1.Names': WHATEVER THE INPUT: true; the input reads as it did. -/
def namesSpec : ChangeSpec := { name := "names", fn := fun _ => fun
  | [] => { results := [.lit (.bool true)], args := [] }
  | _ => none }
def namesRow : OpenClaim := { program := "ytehklkmnbhgebaadoor", sum := "fbb4df145bff33da45850ec73ddec85da5b42614b64c03e95a62288cdc3265e6", func := "shredcol/shredcollaw1.Names", spec := "names", inPlace := ["internal/reflectlite.ValueOf", "(internal/reflectlite.Value).Type", "(internal/reflectlite.Value).IsNil", "internal/reflectlite.TypeOf", "(internal/reflectlite.Value).Elem", "(internal/reflectlite.Value).Set"], unfollowed := true, recurses := true, named := ["shredcol/api.ErrText", "shredcol/api.ErrBound", "shredcol/api.ErrShape", "shredcol/api.ErrKind", "shredcol/api.ErrName", "shredcol/api.ErrNone", "shredcol/api.ErrSum", "shredcol/api.ErrSpace", "errors.errorType"], apart := false, laid := [("errors.errorType", laid_errors_errorType), ("shredcol/api.ErrText", laid_shredcol_api_ErrText), ("shredcol/api.ErrBound", laid_shredcol_api_ErrBound), ("shredcol/api.ErrShape", laid_shredcol_api_ErrShape), ("shredcol/api.ErrKind", laid_shredcol_api_ErrKind), ("shredcol/api.ErrName", laid_shredcol_api_ErrName), ("shredcol/api.ErrNone", laid_shredcol_api_ErrNone), ("shredcol/api.ErrSum", laid_shredcol_api_ErrSum), ("shredcol/api.ErrSpace", laid_shredcol_api_ErrSpace)] }
def NamesSaid : Prop := namesRow.holds Tryd.pinned (OpenSpec.ofChange namesSpec)

/-- ITS FALSE NEIGHBOUR: 'it returns false'. Refute it at one input. -/
def namesWrong : ChangeSpec := { name := "names", fn := fun _ => fun
  | [] => { results := [.lit (.bool false)], args := [] }
  | _ => none }
def NamesWrongFalsely : Prop := namesRow.holds Tryd.pinned (OpenSpec.ofChange namesWrong)

/-- 'shredcollaw1.BitsTwice': WHATEVER THE INPUT: true; the input reads as it did. -/
def bitsTwiceSpec : ChangeSpec := { name := "bitsTwice", fn := fun _ => fun
  | [d1, d2, d3] => { results := [.lit (.bool true)], args := [d1, d2, d3] }
  | _ => none }
def bitsTwiceRow : OpenClaim := { program := "ytehklkmnbhgebaadoor", sum := "fbb4df145bff33da45850ec73ddec85da5b42614b64c03e95a62288cdc3265e6", func := "shredcol/shredcollaw1.BitsTwice", spec := "bitsTwice", inPlace := ["internal/abi.NoEscape"], unfollowed := true, recurses := true, named := ["shredcol/api.ErrBound", "shredcol/api.ErrShape", "shredcol/api.ErrText"], apart := false, laid := [("shredcol/api.ErrText", laid_shredcol_api_ErrText), ("shredcol/api.ErrBound", laid_shredcol_api_ErrBound), ("shredcol/api.ErrShape", laid_shredcol_api_ErrShape)] }
def BitsTwiceSaid : Prop := bitsTwiceRow.holds Tryd.pinned (OpenSpec.ofChange bitsTwiceSpec)

/-- ITS FALSE NEIGHBOUR: 'it returns false'. Refute it at one input. -/
def bitsTwiceWrong : ChangeSpec := { name := "bitsTwice", fn := fun _ => fun
  | [d1, d2, d3] => { results := [.lit (.bool false)], args := [d1, d2, d3] }
  | _ => none }
def BitsTwiceWrongFalsely : Prop := bitsTwiceRow.holds Tryd.pinned (OpenSpec.ofChange bitsTwiceWrong)

/-- 'shredcollaw1.WireReads': WHATEVER THE INPUT: true; the input reads as it did. -/
def wireReadsSpec : ChangeSpec := { name := "wireReads", fn := fun _ => fun
  | [d] => { results := [.lit (.bool true)], args := [d] }
  | _ => none }
def wireReadsRow : OpenClaim := { program := "ytehklkmnbhgebaadoor", sum := "fbb4df145bff33da45850ec73ddec85da5b42614b64c03e95a62288cdc3265e6", func := "shredcol/shredcollaw1.WireReads", spec := "wireReads", inPlace := ["internal/reflectlite.ValueOf", "(internal/reflectlite.Value).Type", "(internal/reflectlite.Value).IsNil", "internal/reflectlite.TypeOf", "(internal/reflectlite.Value).Elem", "(internal/reflectlite.Value).Set"], unfollowed := true, recurses := true, named := ["shredcol/api.ErrText", "shredcol/api.ErrBound", "shredcol/api.ErrShape", "shredcol/api.ErrKind", "shredcol/api.ErrName", "shredcol/api.ErrNone", "shredcol/api.ErrSum", "shredcol/api.ErrSpace", "errors.errorType"], apart := false, laid := [("errors.errorType", laid_errors_errorType), ("shredcol/api.ErrText", laid_shredcol_api_ErrText), ("shredcol/api.ErrBound", laid_shredcol_api_ErrBound), ("shredcol/api.ErrShape", laid_shredcol_api_ErrShape), ("shredcol/api.ErrKind", laid_shredcol_api_ErrKind), ("shredcol/api.ErrName", laid_shredcol_api_ErrName), ("shredcol/api.ErrNone", laid_shredcol_api_ErrNone), ("shredcol/api.ErrSum", laid_shredcol_api_ErrSum), ("shredcol/api.ErrSpace", laid_shredcol_api_ErrSpace)] }
def WireReadsSaid : Prop := wireReadsRow.holds Tryd.pinned (OpenSpec.ofChange wireReadsSpec)

/-- ITS FALSE NEIGHBOUR: 'it returns false'. Refute it at one input. -/
def wireReadsWrong : ChangeSpec := { name := "wireReads", fn := fun _ => fun
  | [d] => { results := [.lit (.bool false)], args := [d] }
  | _ => none }
def WireReadsWrongFalsely : Prop := wireReadsRow.holds Tryd.pinned (OpenSpec.ofChange wireReadsWrong)

/-- 'shredcollaw1.WireFixed': WHATEVER THE INPUT: true; the input reads as it did. -/
def wireFixedSpec : ChangeSpec := { name := "wireFixed", fn := fun _ => fun
  | [d1, d2, d3] => { results := [.lit (.bool true)], args := [d1, d2, d3] }
  | _ => none }
def wireFixedRow : OpenClaim := { program := "ytehklkmnbhgebaadoor", sum := "fbb4df145bff33da45850ec73ddec85da5b42614b64c03e95a62288cdc3265e6", func := "shredcol/shredcollaw1.WireFixed", spec := "wireFixed", inPlace := ["internal/reflectlite.ValueOf", "(internal/reflectlite.Value).Type", "(internal/reflectlite.Value).IsNil", "internal/reflectlite.TypeOf", "(internal/reflectlite.Value).Elem", "(internal/reflectlite.Value).Set"], unfollowed := true, recurses := true, named := ["shredcol/api.ErrBound", "shredcol/api.ErrText", "shredcol/api.ErrShape", "shredcol/api.ErrKind", "shredcol/api.ErrName", "shredcol/api.ErrNone", "shredcol/api.ErrSum", "shredcol/api.ErrSpace", "errors.errorType"], apart := false, laid := [("errors.errorType", laid_errors_errorType), ("shredcol/api.ErrText", laid_shredcol_api_ErrText), ("shredcol/api.ErrBound", laid_shredcol_api_ErrBound), ("shredcol/api.ErrShape", laid_shredcol_api_ErrShape), ("shredcol/api.ErrKind", laid_shredcol_api_ErrKind), ("shredcol/api.ErrName", laid_shredcol_api_ErrName), ("shredcol/api.ErrNone", laid_shredcol_api_ErrNone), ("shredcol/api.ErrSum", laid_shredcol_api_ErrSum), ("shredcol/api.ErrSpace", laid_shredcol_api_ErrSpace)] }
def WireFixedSaid : Prop := wireFixedRow.holds Tryd.pinned (OpenSpec.ofChange wireFixedSpec)

/-- ITS FALSE NEIGHBOUR: 'it returns false'. Refute it at one input. -/
def wireFixedWrong : ChangeSpec := { name := "wireFixed", fn := fun _ => fun
  | [d1, d2, d3] => { results := [.lit (.bool false)], args := [d1, d2, d3] }
  | _ => none }
def WireFixedWrongFalsely : Prop := wireFixedRow.holds Tryd.pinned (OpenSpec.ofChange wireFixedWrong)

/-- 'shredcollaw1.WireText': WHATEVER THE INPUT: true; the input reads as it did. -/
def wireTextSpec : ChangeSpec := { name := "wireText", fn := fun _ => fun
  | [d1, d2] => { results := [.lit (.bool true)], args := [d1, d2] }
  | _ => none }
def wireTextRow : OpenClaim := { program := "ytehklkmnbhgebaadoor", sum := "fbb4df145bff33da45850ec73ddec85da5b42614b64c03e95a62288cdc3265e6", func := "shredcol/shredcollaw1.WireText", spec := "wireText", inPlace := ["internal/reflectlite.ValueOf", "(internal/reflectlite.Value).Type", "(internal/reflectlite.Value).IsNil", "internal/reflectlite.TypeOf", "(internal/reflectlite.Value).Elem", "(internal/reflectlite.Value).Set"], unfollowed := true, recurses := true, named := ["shredcol/api.ErrText", "shredcol/api.ErrBound", "shredcol/api.ErrShape", "shredcol/api.ErrKind", "shredcol/api.ErrName", "shredcol/api.ErrNone", "shredcol/api.ErrSum", "shredcol/api.ErrSpace", "errors.errorType"], apart := false, laid := [("errors.errorType", laid_errors_errorType), ("shredcol/api.ErrText", laid_shredcol_api_ErrText), ("shredcol/api.ErrBound", laid_shredcol_api_ErrBound), ("shredcol/api.ErrShape", laid_shredcol_api_ErrShape), ("shredcol/api.ErrKind", laid_shredcol_api_ErrKind), ("shredcol/api.ErrName", laid_shredcol_api_ErrName), ("shredcol/api.ErrNone", laid_shredcol_api_ErrNone), ("shredcol/api.ErrSum", laid_shredcol_api_ErrSum), ("shredcol/api.ErrSpace", laid_shredcol_api_ErrSpace)] }
def WireTextSaid : Prop := wireTextRow.holds Tryd.pinned (OpenSpec.ofChange wireTextSpec)

/-- ITS FALSE NEIGHBOUR: 'it returns false'. Refute it at one input. -/
def wireTextWrong : ChangeSpec := { name := "wireText", fn := fun _ => fun
  | [d1, d2] => { results := [.lit (.bool false)], args := [d1, d2] }
  | _ => none }
def WireTextWrongFalsely : Prop := wireTextRow.holds Tryd.pinned (OpenSpec.ofChange wireTextWrong)

/-- 'shredcollaw1.BitsPack': WHATEVER THE INPUT: true; the input reads as it did. -/
def bitsPackSpec : ChangeSpec := { name := "bitsPack", fn := fun _ => fun
  | [d1, d2] => { results := [.lit (.bool true)], args := [d1, d2] }
  | _ => none }
def bitsPackRow : OpenClaim := { program := "ytehklkmnbhgebaadoor", sum := "fbb4df145bff33da45850ec73ddec85da5b42614b64c03e95a62288cdc3265e6", func := "shredcol/shredcollaw1.BitsPack", spec := "bitsPack", inPlace := ["internal/reflectlite.ValueOf", "(internal/reflectlite.Value).Type", "(internal/reflectlite.Value).IsNil", "internal/reflectlite.TypeOf", "(internal/reflectlite.Value).Elem", "(internal/reflectlite.Value).Set"], unfollowed := true, recurses := true, named := ["shredcol/api.ErrBound", "shredcol/api.ErrShape", "shredcol/api.ErrText", "shredcol/api.ErrKind", "shredcol/api.ErrName", "shredcol/api.ErrNone", "shredcol/api.ErrSum", "shredcol/api.ErrSpace", "errors.errorType"], apart := false, laid := [("errors.errorType", laid_errors_errorType), ("shredcol/api.ErrText", laid_shredcol_api_ErrText), ("shredcol/api.ErrBound", laid_shredcol_api_ErrBound), ("shredcol/api.ErrShape", laid_shredcol_api_ErrShape), ("shredcol/api.ErrKind", laid_shredcol_api_ErrKind), ("shredcol/api.ErrName", laid_shredcol_api_ErrName), ("shredcol/api.ErrNone", laid_shredcol_api_ErrNone), ("shredcol/api.ErrSum", laid_shredcol_api_ErrSum), ("shredcol/api.ErrSpace", laid_shredcol_api_ErrSpace)] }
def BitsPackSaid : Prop := bitsPackRow.holds Tryd.pinned (OpenSpec.ofChange bitsPackSpec)

/-- ITS FALSE NEIGHBOUR: 'it returns false'. Refute it at one input. -/
def bitsPackWrong : ChangeSpec := { name := "bitsPack", fn := fun _ => fun
  | [d1, d2] => { results := [.lit (.bool false)], args := [d1, d2] }
  | _ => none }
def BitsPackWrongFalsely : Prop := bitsPackRow.holds Tryd.pinned (OpenSpec.ofChange bitsPackWrong)

/-- 'shredcollaw1.BitsUnpack': WHATEVER THE INPUT: true; the input reads as it did. -/
def bitsUnpackSpec : ChangeSpec := { name := "bitsUnpack", fn := fun _ => fun
  | [d1, d2, d3] => { results := [.lit (.bool true)], args := [d1, d2, d3] }
  | _ => none }
def bitsUnpackRow : OpenClaim := { program := "ytehklkmnbhgebaadoor", sum := "fbb4df145bff33da45850ec73ddec85da5b42614b64c03e95a62288cdc3265e6", func := "shredcol/shredcollaw1.BitsUnpack", spec := "bitsUnpack", inPlace := ["internal/reflectlite.ValueOf", "(internal/reflectlite.Value).Type", "(internal/reflectlite.Value).IsNil", "internal/reflectlite.TypeOf", "(internal/reflectlite.Value).Elem", "(internal/reflectlite.Value).Set"], unfollowed := true, recurses := true, named := ["shredcol/api.ErrBound", "shredcol/api.ErrShape", "shredcol/api.ErrText", "shredcol/api.ErrKind", "shredcol/api.ErrName", "shredcol/api.ErrNone", "shredcol/api.ErrSum", "shredcol/api.ErrSpace", "errors.errorType"], apart := false, laid := [("errors.errorType", laid_errors_errorType), ("shredcol/api.ErrText", laid_shredcol_api_ErrText), ("shredcol/api.ErrBound", laid_shredcol_api_ErrBound), ("shredcol/api.ErrShape", laid_shredcol_api_ErrShape), ("shredcol/api.ErrKind", laid_shredcol_api_ErrKind), ("shredcol/api.ErrName", laid_shredcol_api_ErrName), ("shredcol/api.ErrNone", laid_shredcol_api_ErrNone), ("shredcol/api.ErrSum", laid_shredcol_api_ErrSum), ("shredcol/api.ErrSpace", laid_shredcol_api_ErrSpace)] }
def BitsUnpackSaid : Prop := bitsUnpackRow.holds Tryd.pinned (OpenSpec.ofChange bitsUnpackSpec)

/-- ITS FALSE NEIGHBOUR: 'it returns false'. Refute it at one input. -/
def bitsUnpackWrong : ChangeSpec := { name := "bitsUnpack", fn := fun _ => fun
  | [d1, d2, d3] => { results := [.lit (.bool false)], args := [d1, d2, d3] }
  | _ => none }
def BitsUnpackWrongFalsely : Prop := bitsUnpackRow.holds Tryd.pinned (OpenSpec.ofChange bitsUnpackWrong)

/-- 'shredcollaw1.BitsReads': WHATEVER THE INPUT: true; the input reads as it did. -/
def bitsReadsSpec : ChangeSpec := { name := "bitsReads", fn := fun _ => fun
  | [d1, d2, d3] => { results := [.lit (.bool true)], args := [d1, d2, d3] }
  | _ => none }
def bitsReadsRow : OpenClaim := { program := "ytehklkmnbhgebaadoor", sum := "fbb4df145bff33da45850ec73ddec85da5b42614b64c03e95a62288cdc3265e6", func := "shredcol/shredcollaw1.BitsReads", spec := "bitsReads", inPlace := ["internal/reflectlite.ValueOf", "(internal/reflectlite.Value).Type", "(internal/reflectlite.Value).IsNil", "internal/reflectlite.TypeOf", "(internal/reflectlite.Value).Elem", "(internal/reflectlite.Value).Set"], unfollowed := true, recurses := true, named := ["shredcol/api.ErrBound", "shredcol/api.ErrShape", "shredcol/api.ErrText", "shredcol/api.ErrKind", "shredcol/api.ErrName", "shredcol/api.ErrNone", "shredcol/api.ErrSum", "shredcol/api.ErrSpace", "errors.errorType"], apart := false, laid := [("errors.errorType", laid_errors_errorType), ("shredcol/api.ErrText", laid_shredcol_api_ErrText), ("shredcol/api.ErrBound", laid_shredcol_api_ErrBound), ("shredcol/api.ErrShape", laid_shredcol_api_ErrShape), ("shredcol/api.ErrKind", laid_shredcol_api_ErrKind), ("shredcol/api.ErrName", laid_shredcol_api_ErrName), ("shredcol/api.ErrNone", laid_shredcol_api_ErrNone), ("shredcol/api.ErrSum", laid_shredcol_api_ErrSum), ("shredcol/api.ErrSpace", laid_shredcol_api_ErrSpace)] }
def BitsReadsSaid : Prop := bitsReadsRow.holds Tryd.pinned (OpenSpec.ofChange bitsReadsSpec)

/-- ITS FALSE NEIGHBOUR: 'it returns false'. Refute it at one input. -/
def bitsReadsWrong : ChangeSpec := { name := "bitsReads", fn := fun _ => fun
  | [d1, d2, d3] => { results := [.lit (.bool false)], args := [d1, d2, d3] }
  | _ => none }
def BitsReadsWrongFalsely : Prop := bitsReadsRow.holds Tryd.pinned (OpenSpec.ofChange bitsReadsWrong)

/-- 'shredcollaw1.BitsRuns': WHATEVER THE INPUT: true; the input reads as it did. -/
def bitsRunsSpec : ChangeSpec := { name := "bitsRuns", fn := fun _ => fun
  | [d1, d2] => { results := [.lit (.bool true)], args := [d1, d2] }
  | _ => none }
def bitsRunsRow : OpenClaim := { program := "ytehklkmnbhgebaadoor", sum := "fbb4df145bff33da45850ec73ddec85da5b42614b64c03e95a62288cdc3265e6", func := "shredcol/shredcollaw1.BitsRuns", spec := "bitsRuns", inPlace := ["internal/abi.NoEscape", "internal/reflectlite.ValueOf", "(internal/reflectlite.Value).Type", "(internal/reflectlite.Value).IsNil", "internal/reflectlite.TypeOf", "(internal/reflectlite.Value).Elem", "(internal/reflectlite.Value).Set"], unfollowed := true, recurses := true, named := ["shredcol/api.ErrBound", "shredcol/api.ErrShape", "shredcol/api.ErrText", "shredcol/api.ErrKind", "shredcol/api.ErrName", "shredcol/api.ErrNone", "shredcol/api.ErrSum", "shredcol/api.ErrSpace", "errors.errorType"], apart := false, laid := [("errors.errorType", laid_errors_errorType), ("shredcol/api.ErrText", laid_shredcol_api_ErrText), ("shredcol/api.ErrBound", laid_shredcol_api_ErrBound), ("shredcol/api.ErrShape", laid_shredcol_api_ErrShape), ("shredcol/api.ErrKind", laid_shredcol_api_ErrKind), ("shredcol/api.ErrName", laid_shredcol_api_ErrName), ("shredcol/api.ErrNone", laid_shredcol_api_ErrNone), ("shredcol/api.ErrSum", laid_shredcol_api_ErrSum), ("shredcol/api.ErrSpace", laid_shredcol_api_ErrSpace)] }
def BitsRunsSaid : Prop := bitsRunsRow.holds Tryd.pinned (OpenSpec.ofChange bitsRunsSpec)

/-- ITS FALSE NEIGHBOUR: 'it returns false'. Refute it at one input. -/
def bitsRunsWrong : ChangeSpec := { name := "bitsRuns", fn := fun _ => fun
  | [d1, d2] => { results := [.lit (.bool false)], args := [d1, d2] }
  | _ => none }
def BitsRunsWrongFalsely : Prop := bitsRunsRow.holds Tryd.pinned (OpenSpec.ofChange bitsRunsWrong)

/- THE SECOND FORM. 'bulk': how many values and letters a reading holds, each counted each time it is reached (what is shared counts as often as it is met; a slice's spare places count too). A statement '..UptoSaid' is the law's where the arguments, and the package variables that the reading takes, are together of bulk at most 1048576: NARROWER than '..Said'. Prove '..Said' where nothing that the law and all that it calls make is longer than what came in: it says more and counts as full. Else prove '..UptoSaid'. A law counts once. -/
mutual
def uptoBulk {H : Type} : DataW H → Nat
  | .lit (.string bytes) => bytes.length + 1
  | .lit _ => 1
  | .nil => 1
  | .ptr d => uptoBulk d + 1
  | .slice elems spare => uptoBulkAll elems + uptoBulkAll spare + 1
  | .agg parts => uptoBulkAll parts + 1
  | .iface _ d => uptoBulk d + 1
  | .map entries => uptoBulkEntries entries + 1
  | .held _ => 1
def uptoBulkAll {H : Type} : List (DataW H) → Nat
  | [] => 0
  | d :: r => uptoBulk d + uptoBulkAll r
def uptoBulkEntries {H : Type} : List (Lit × DataW H) → Nat
  | [] => 0
  | x :: r => uptoBulkEntry x + uptoBulkEntries r
def uptoBulkEntry {H : Type} : Lit × DataW H → Nat
  | (.string bytes, d) => bytes.length + uptoBulk d + 1
  | (_, d) => uptoBulk d + 1
 end
def uptoSmall : (H : Type) → List (DataW H) → Bool := fun _ ds => decide (uptoBulkAll ds ≤ 1048576)
def OpenSpec.upto (s : _root_.Go.ChangeSpec) : _root_.Go.OpenSpec := { _root_.Go.OpenSpec.ofChange s with cond := some uptoSmall }

/-- 'shredcollaw1.WireTwice', WHERE WHAT IT READS IS OF BULK AT MOST 1048576: true; the input reads as it did. -/
def wireTwiceUptoRow : OpenClaim := { program := "ytehklkmnbhgebaadoor", sum := "fbb4df145bff33da45850ec73ddec85da5b42614b64c03e95a62288cdc3265e6", func := "shredcol/shredcollaw1.WireTwice", spec := "wireTwice", named := ["shredcol/api.ErrText"], apart := false, laid := [("shredcol/api.ErrText", laid_shredcol_api_ErrText)], narrowed := true }
def WireTwiceUptoSaid : Prop := wireTwiceUptoRow.holds Tryd.pinned (OpenSpec.upto wireTwiceSpec)

/-- 'shredcollaw1.BitsWidth', WHERE WHAT IT READS IS OF BULK AT MOST 1048576: true; the input reads as it did. -/
def bitsWidthUptoRow : OpenClaim := { program := "ytehklkmnbhgebaadoor", sum := "fbb4df145bff33da45850ec73ddec85da5b42614b64c03e95a62288cdc3265e6", func := "shredcol/shredcollaw1.BitsWidth", spec := "bitsWidth", named := ["shredcol/api.ErrBound", "shredcol/api.ErrShape"], apart := false, laid := [("shredcol/api.ErrBound", laid_shredcol_api_ErrBound), ("shredcol/api.ErrShape", laid_shredcol_api_ErrShape)], narrowed := true }
def BitsWidthUptoSaid : Prop := bitsWidthUptoRow.holds Tryd.pinned (OpenSpec.upto bitsWidthSpec)

/-- 'shredcollaw1.Names', WHERE WHAT IT READS IS OF BULK AT MOST 1048576: true; the input reads as it did. -/
def namesUptoRow : OpenClaim := { program := "ytehklkmnbhgebaadoor", sum := "fbb4df145bff33da45850ec73ddec85da5b42614b64c03e95a62288cdc3265e6", func := "shredcol/shredcollaw1.Names", spec := "names", inPlace := ["internal/reflectlite.ValueOf", "(internal/reflectlite.Value).Type", "(internal/reflectlite.Value).IsNil", "internal/reflectlite.TypeOf", "(internal/reflectlite.Value).Elem", "(internal/reflectlite.Value).Set"], unfollowed := true, recurses := true, named := ["shredcol/api.ErrText", "shredcol/api.ErrBound", "shredcol/api.ErrShape", "shredcol/api.ErrKind", "shredcol/api.ErrName", "shredcol/api.ErrNone", "shredcol/api.ErrSum", "shredcol/api.ErrSpace", "errors.errorType"], apart := false, laid := [("errors.errorType", laid_errors_errorType), ("shredcol/api.ErrText", laid_shredcol_api_ErrText), ("shredcol/api.ErrBound", laid_shredcol_api_ErrBound), ("shredcol/api.ErrShape", laid_shredcol_api_ErrShape), ("shredcol/api.ErrKind", laid_shredcol_api_ErrKind), ("shredcol/api.ErrName", laid_shredcol_api_ErrName), ("shredcol/api.ErrNone", laid_shredcol_api_ErrNone), ("shredcol/api.ErrSum", laid_shredcol_api_ErrSum), ("shredcol/api.ErrSpace", laid_shredcol_api_ErrSpace)], narrowed := true }
def NamesUptoSaid : Prop := namesUptoRow.holds Tryd.pinned (OpenSpec.upto namesSpec)

/-- 'shredcollaw1.BitsTwice', WHERE WHAT IT READS IS OF BULK AT MOST 1048576: true; the input reads as it did. -/
def bitsTwiceUptoRow : OpenClaim := { program := "ytehklkmnbhgebaadoor", sum := "fbb4df145bff33da45850ec73ddec85da5b42614b64c03e95a62288cdc3265e6", func := "shredcol/shredcollaw1.BitsTwice", spec := "bitsTwice", inPlace := ["internal/abi.NoEscape"], unfollowed := true, recurses := true, named := ["shredcol/api.ErrBound", "shredcol/api.ErrShape", "shredcol/api.ErrText"], apart := false, laid := [("shredcol/api.ErrText", laid_shredcol_api_ErrText), ("shredcol/api.ErrBound", laid_shredcol_api_ErrBound), ("shredcol/api.ErrShape", laid_shredcol_api_ErrShape)], narrowed := true }
def BitsTwiceUptoSaid : Prop := bitsTwiceUptoRow.holds Tryd.pinned (OpenSpec.upto bitsTwiceSpec)

/-- 'shredcollaw1.WireReads', WHERE WHAT IT READS IS OF BULK AT MOST 1048576: true; the input reads as it did. -/
def wireReadsUptoRow : OpenClaim := { program := "ytehklkmnbhgebaadoor", sum := "fbb4df145bff33da45850ec73ddec85da5b42614b64c03e95a62288cdc3265e6", func := "shredcol/shredcollaw1.WireReads", spec := "wireReads", inPlace := ["internal/reflectlite.ValueOf", "(internal/reflectlite.Value).Type", "(internal/reflectlite.Value).IsNil", "internal/reflectlite.TypeOf", "(internal/reflectlite.Value).Elem", "(internal/reflectlite.Value).Set"], unfollowed := true, recurses := true, named := ["shredcol/api.ErrText", "shredcol/api.ErrBound", "shredcol/api.ErrShape", "shredcol/api.ErrKind", "shredcol/api.ErrName", "shredcol/api.ErrNone", "shredcol/api.ErrSum", "shredcol/api.ErrSpace", "errors.errorType"], apart := false, laid := [("errors.errorType", laid_errors_errorType), ("shredcol/api.ErrText", laid_shredcol_api_ErrText), ("shredcol/api.ErrBound", laid_shredcol_api_ErrBound), ("shredcol/api.ErrShape", laid_shredcol_api_ErrShape), ("shredcol/api.ErrKind", laid_shredcol_api_ErrKind), ("shredcol/api.ErrName", laid_shredcol_api_ErrName), ("shredcol/api.ErrNone", laid_shredcol_api_ErrNone), ("shredcol/api.ErrSum", laid_shredcol_api_ErrSum), ("shredcol/api.ErrSpace", laid_shredcol_api_ErrSpace)], narrowed := true }
def WireReadsUptoSaid : Prop := wireReadsUptoRow.holds Tryd.pinned (OpenSpec.upto wireReadsSpec)

/-- 'shredcollaw1.WireFixed', WHERE WHAT IT READS IS OF BULK AT MOST 1048576: true; the input reads as it did. -/
def wireFixedUptoRow : OpenClaim := { program := "ytehklkmnbhgebaadoor", sum := "fbb4df145bff33da45850ec73ddec85da5b42614b64c03e95a62288cdc3265e6", func := "shredcol/shredcollaw1.WireFixed", spec := "wireFixed", inPlace := ["internal/reflectlite.ValueOf", "(internal/reflectlite.Value).Type", "(internal/reflectlite.Value).IsNil", "internal/reflectlite.TypeOf", "(internal/reflectlite.Value).Elem", "(internal/reflectlite.Value).Set"], unfollowed := true, recurses := true, named := ["shredcol/api.ErrBound", "shredcol/api.ErrText", "shredcol/api.ErrShape", "shredcol/api.ErrKind", "shredcol/api.ErrName", "shredcol/api.ErrNone", "shredcol/api.ErrSum", "shredcol/api.ErrSpace", "errors.errorType"], apart := false, laid := [("errors.errorType", laid_errors_errorType), ("shredcol/api.ErrText", laid_shredcol_api_ErrText), ("shredcol/api.ErrBound", laid_shredcol_api_ErrBound), ("shredcol/api.ErrShape", laid_shredcol_api_ErrShape), ("shredcol/api.ErrKind", laid_shredcol_api_ErrKind), ("shredcol/api.ErrName", laid_shredcol_api_ErrName), ("shredcol/api.ErrNone", laid_shredcol_api_ErrNone), ("shredcol/api.ErrSum", laid_shredcol_api_ErrSum), ("shredcol/api.ErrSpace", laid_shredcol_api_ErrSpace)], narrowed := true }
def WireFixedUptoSaid : Prop := wireFixedUptoRow.holds Tryd.pinned (OpenSpec.upto wireFixedSpec)

/-- 'shredcollaw1.WireText', WHERE WHAT IT READS IS OF BULK AT MOST 1048576: true; the input reads as it did. -/
def wireTextUptoRow : OpenClaim := { program := "ytehklkmnbhgebaadoor", sum := "fbb4df145bff33da45850ec73ddec85da5b42614b64c03e95a62288cdc3265e6", func := "shredcol/shredcollaw1.WireText", spec := "wireText", inPlace := ["internal/reflectlite.ValueOf", "(internal/reflectlite.Value).Type", "(internal/reflectlite.Value).IsNil", "internal/reflectlite.TypeOf", "(internal/reflectlite.Value).Elem", "(internal/reflectlite.Value).Set"], unfollowed := true, recurses := true, named := ["shredcol/api.ErrText", "shredcol/api.ErrBound", "shredcol/api.ErrShape", "shredcol/api.ErrKind", "shredcol/api.ErrName", "shredcol/api.ErrNone", "shredcol/api.ErrSum", "shredcol/api.ErrSpace", "errors.errorType"], apart := false, laid := [("errors.errorType", laid_errors_errorType), ("shredcol/api.ErrText", laid_shredcol_api_ErrText), ("shredcol/api.ErrBound", laid_shredcol_api_ErrBound), ("shredcol/api.ErrShape", laid_shredcol_api_ErrShape), ("shredcol/api.ErrKind", laid_shredcol_api_ErrKind), ("shredcol/api.ErrName", laid_shredcol_api_ErrName), ("shredcol/api.ErrNone", laid_shredcol_api_ErrNone), ("shredcol/api.ErrSum", laid_shredcol_api_ErrSum), ("shredcol/api.ErrSpace", laid_shredcol_api_ErrSpace)], narrowed := true }
def WireTextUptoSaid : Prop := wireTextUptoRow.holds Tryd.pinned (OpenSpec.upto wireTextSpec)

/-- 'shredcollaw1.BitsPack', WHERE WHAT IT READS IS OF BULK AT MOST 1048576: true; the input reads as it did. -/
def bitsPackUptoRow : OpenClaim := { program := "ytehklkmnbhgebaadoor", sum := "fbb4df145bff33da45850ec73ddec85da5b42614b64c03e95a62288cdc3265e6", func := "shredcol/shredcollaw1.BitsPack", spec := "bitsPack", inPlace := ["internal/reflectlite.ValueOf", "(internal/reflectlite.Value).Type", "(internal/reflectlite.Value).IsNil", "internal/reflectlite.TypeOf", "(internal/reflectlite.Value).Elem", "(internal/reflectlite.Value).Set"], unfollowed := true, recurses := true, named := ["shredcol/api.ErrBound", "shredcol/api.ErrShape", "shredcol/api.ErrText", "shredcol/api.ErrKind", "shredcol/api.ErrName", "shredcol/api.ErrNone", "shredcol/api.ErrSum", "shredcol/api.ErrSpace", "errors.errorType"], apart := false, laid := [("errors.errorType", laid_errors_errorType), ("shredcol/api.ErrText", laid_shredcol_api_ErrText), ("shredcol/api.ErrBound", laid_shredcol_api_ErrBound), ("shredcol/api.ErrShape", laid_shredcol_api_ErrShape), ("shredcol/api.ErrKind", laid_shredcol_api_ErrKind), ("shredcol/api.ErrName", laid_shredcol_api_ErrName), ("shredcol/api.ErrNone", laid_shredcol_api_ErrNone), ("shredcol/api.ErrSum", laid_shredcol_api_ErrSum), ("shredcol/api.ErrSpace", laid_shredcol_api_ErrSpace)], narrowed := true }
def BitsPackUptoSaid : Prop := bitsPackUptoRow.holds Tryd.pinned (OpenSpec.upto bitsPackSpec)

/-- 'shredcollaw1.BitsUnpack', WHERE WHAT IT READS IS OF BULK AT MOST 1048576: true; the input reads as it did. -/
def bitsUnpackUptoRow : OpenClaim := { program := "ytehklkmnbhgebaadoor", sum := "fbb4df145bff33da45850ec73ddec85da5b42614b64c03e95a62288cdc3265e6", func := "shredcol/shredcollaw1.BitsUnpack", spec := "bitsUnpack", inPlace := ["internal/reflectlite.ValueOf", "(internal/reflectlite.Value).Type", "(internal/reflectlite.Value).IsNil", "internal/reflectlite.TypeOf", "(internal/reflectlite.Value).Elem", "(internal/reflectlite.Value).Set"], unfollowed := true, recurses := true, named := ["shredcol/api.ErrBound", "shredcol/api.ErrShape", "shredcol/api.ErrText", "shredcol/api.ErrKind", "shredcol/api.ErrName", "shredcol/api.ErrNone", "shredcol/api.ErrSum", "shredcol/api.ErrSpace", "errors.errorType"], apart := false, laid := [("errors.errorType", laid_errors_errorType), ("shredcol/api.ErrText", laid_shredcol_api_ErrText), ("shredcol/api.ErrBound", laid_shredcol_api_ErrBound), ("shredcol/api.ErrShape", laid_shredcol_api_ErrShape), ("shredcol/api.ErrKind", laid_shredcol_api_ErrKind), ("shredcol/api.ErrName", laid_shredcol_api_ErrName), ("shredcol/api.ErrNone", laid_shredcol_api_ErrNone), ("shredcol/api.ErrSum", laid_shredcol_api_ErrSum), ("shredcol/api.ErrSpace", laid_shredcol_api_ErrSpace)], narrowed := true }
def BitsUnpackUptoSaid : Prop := bitsUnpackUptoRow.holds Tryd.pinned (OpenSpec.upto bitsUnpackSpec)

/-- 'shredcollaw1.BitsReads', WHERE WHAT IT READS IS OF BULK AT MOST 1048576: true; the input reads as it did. -/
def bitsReadsUptoRow : OpenClaim := { program := "ytehklkmnbhgebaadoor", sum := "fbb4df145bff33da45850ec73ddec85da5b42614b64c03e95a62288cdc3265e6", func := "shredcol/shredcollaw1.BitsReads", spec := "bitsReads", inPlace := ["internal/reflectlite.ValueOf", "(internal/reflectlite.Value).Type", "(internal/reflectlite.Value).IsNil", "internal/reflectlite.TypeOf", "(internal/reflectlite.Value).Elem", "(internal/reflectlite.Value).Set"], unfollowed := true, recurses := true, named := ["shredcol/api.ErrBound", "shredcol/api.ErrShape", "shredcol/api.ErrText", "shredcol/api.ErrKind", "shredcol/api.ErrName", "shredcol/api.ErrNone", "shredcol/api.ErrSum", "shredcol/api.ErrSpace", "errors.errorType"], apart := false, laid := [("errors.errorType", laid_errors_errorType), ("shredcol/api.ErrText", laid_shredcol_api_ErrText), ("shredcol/api.ErrBound", laid_shredcol_api_ErrBound), ("shredcol/api.ErrShape", laid_shredcol_api_ErrShape), ("shredcol/api.ErrKind", laid_shredcol_api_ErrKind), ("shredcol/api.ErrName", laid_shredcol_api_ErrName), ("shredcol/api.ErrNone", laid_shredcol_api_ErrNone), ("shredcol/api.ErrSum", laid_shredcol_api_ErrSum), ("shredcol/api.ErrSpace", laid_shredcol_api_ErrSpace)], narrowed := true }
def BitsReadsUptoSaid : Prop := bitsReadsUptoRow.holds Tryd.pinned (OpenSpec.upto bitsReadsSpec)

/-- 'shredcollaw1.BitsRuns', WHERE WHAT IT READS IS OF BULK AT MOST 1048576: true; the input reads as it did. -/
def bitsRunsUptoRow : OpenClaim := { program := "ytehklkmnbhgebaadoor", sum := "fbb4df145bff33da45850ec73ddec85da5b42614b64c03e95a62288cdc3265e6", func := "shredcol/shredcollaw1.BitsRuns", spec := "bitsRuns", inPlace := ["internal/abi.NoEscape", "internal/reflectlite.ValueOf", "(internal/reflectlite.Value).Type", "(internal/reflectlite.Value).IsNil", "internal/reflectlite.TypeOf", "(internal/reflectlite.Value).Elem", "(internal/reflectlite.Value).Set"], unfollowed := true, recurses := true, named := ["shredcol/api.ErrBound", "shredcol/api.ErrShape", "shredcol/api.ErrText", "shredcol/api.ErrKind", "shredcol/api.ErrName", "shredcol/api.ErrNone", "shredcol/api.ErrSum", "shredcol/api.ErrSpace", "errors.errorType"], apart := false, laid := [("errors.errorType", laid_errors_errorType), ("shredcol/api.ErrText", laid_shredcol_api_ErrText), ("shredcol/api.ErrBound", laid_shredcol_api_ErrBound), ("shredcol/api.ErrShape", laid_shredcol_api_ErrShape), ("shredcol/api.ErrKind", laid_shredcol_api_ErrKind), ("shredcol/api.ErrName", laid_shredcol_api_ErrName), ("shredcol/api.ErrNone", laid_shredcol_api_ErrNone), ("shredcol/api.ErrSum", laid_shredcol_api_ErrSum), ("shredcol/api.ErrSpace", laid_shredcol_api_ErrSpace)], narrowed := true }
def BitsRunsUptoSaid : Prop := bitsRunsUptoRow.holds Tryd.pinned (OpenSpec.upto bitsRunsSpec)

end Rows
end Go.Proofs.YtehklkmnbhgebaaDoor
