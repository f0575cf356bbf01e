/-
  NARROWER THAN 'FOR EVERY INPUT', by the rows' own cells (each row's printed sentence says how): EncWords: laid · EncLess: laid · EncOrder: laid · EncPlain: laid · EncPrefix: laid · EncAgain: laid · EncDelta: laid · EncDict: laid · EncBest: laid · EncTwice: laid · EncEach: laid · EncReads: laid.
  DERIVED. THE GIVEN ROWS OF THIS SEAT. 12 by the template 'for every input the law returns true; each argument reads behind the call as it read before'; 0 by the template 'total and deterministic' (their statements: YtddefnnimbjnaaaDoorTotals.lean).
  GIVEN WITH THE SEED: the statements are not yours to turn. If you find one false, say at which input.
  Laid BY PROGRAM, IN A SANDBOX (cutbox-rows.mjs): the forced cells as the released guide's own fill.sh prints them over the translation 8da6f7e80104381c… (all of the seat's roots in one cut). By AI agents, Wed Nov 11 2026. No macro, syntax, notation, axiom, sorry.
-/
import Derived.Test.YtddefnnimbjnaaaDoorChecked
import GoSem.Claim
import GoSem.ClaimJoined
import GoSem.ClaimMapViews
import Derived.JoinedTies
import Derived.KernelRfl
namespace Go.Proofs.YtddefnnimbjnaaaDoor
/- THE CELL 'sum', in the pinned program and in every row, IS THE sha256 OF THE DUMP (.gsa) THAT YtddefnnimbjnaaaDoorProg.lean LOADS. Nothing in Lean hashes anything: it is a label: what it is worth is what the hold of that sum in a sandbox is worth. -/
noncomputable def Tryd.pinned : Pinned := { name := "ytddefnnimbjnaaadoor", sum := "8da6f7e80104381c893c0fdf81b7c886ec77ffc275deccea83c9199b9acf4dca", checked := Tryd.checked }
namespace Rows
def none {H : Type} : Left H := { results := [], args := [] }

/- WHAT THE LISTED PACKAGE-LEVEL VARIABLES READ AS WHEN THE CALL BEGINS. Each datum BY PROGRAM (the guide's laid-datum.mjs) off the statement by which the dump's own 'gosem.cut.vars' lays the variable. In a bare row this is a premise. The card (YtddefnnimbjnaaaDoorCards.lean) ties it to the program's text. -/
def laid_shredcol_api_ErrBound {H : Type} : DataW H := .iface "*errors.errorString" (.ptr (.agg [.lit (.string [115, 104, 114, 101, 100, 99, 111, 108, 58, 32, 98, 111, 117, 110, 100])]))
def laid_shredcol_api_ErrKind {H : Type} : DataW H := .iface "*errors.errorString" (.ptr (.agg [.lit (.string [115, 104, 114, 101, 100, 99, 111, 108, 58, 32, 107, 105, 110, 100])]))
def laid_errors_errorType {H : Type} : DataW H := .iface "internal/reflectlite.rtype" (.agg [.ptr (.lit (.string [101, 114, 114, 111, 114]))])
def laid_shredcol_api_ErrText {H : Type} : DataW H := .iface "*errors.errorString" (.ptr (.agg [.lit (.string [115, 104, 114, 101, 100, 99, 111, 108, 58, 32, 116, 101, 120, 116])]))
def laid_shredcol_api_ErrShape {H : Type} : DataW H := .iface "*errors.errorString" (.ptr (.agg [.lit (.string [115, 104, 114, 101, 100, 99, 111, 108, 58, 32, 115, 104, 97, 112, 101])]))
def laid_shredcol_api_ErrName {H : Type} : DataW H := .iface "*errors.errorString" (.ptr (.agg [.lit (.string [115, 104, 114, 101, 100, 99, 111, 108, 58, 32, 110, 97, 109, 101])]))
def laid_shredcol_api_ErrNone {H : Type} : DataW H := .iface "*errors.errorString" (.ptr (.agg [.lit (.string [115, 104, 114, 101, 100, 99, 111, 108, 58, 32, 110, 111, 110, 101])]))
def laid_shredcol_api_ErrSum {H : Type} : DataW H := .iface "*errors.errorString" (.ptr (.agg [.lit (.string [115, 104, 114, 101, 100, 99, 111, 108, 58, 32, 115, 117, 109])]))
def laid_shredcol_api_ErrSpace {H : Type} : DataW H := .iface "*errors.errorString" (.ptr (.agg [.lit (.string [115, 104, 114, 101, 100, 99, 111, 108, 58, 32, 115, 112, 97, 99, 101])]))

/-- 'shredcollaw1.EncWords': WHATEVER THE INPUT: true; the input reads as it did. -/
def encWordsSpec : ChangeSpec := { name := "encWords", fn := fun _ => fun
  | [d1, d2, d3] => { results := [.lit (.bool true)], args := [d1, d2, d3] }
  | _ => none }
def encWordsRow : OpenClaim := { program := "ytddefnnimbjnaaadoor", sum := "8da6f7e80104381c893c0fdf81b7c886ec77ffc275deccea83c9199b9acf4dca", func := "shredcol/shredcollaw1.EncWords", spec := "encWords", inPlace := ["internal/abi.NoEscape"], named := ["shredcol/api.ErrKind", "shredcol/api.ErrBound"], plainKeys := false, apart := false, laid := [("shredcol/api.ErrBound", laid_shredcol_api_ErrBound), ("shredcol/api.ErrKind", laid_shredcol_api_ErrKind)] }
def EncWordsSaid : Prop := encWordsRow.holds Tryd.pinned (OpenSpec.ofChange encWordsSpec)

/-- ITS FALSE NEIGHBOUR: 'it returns false'. Refute it at one input. -/
def encWordsWrong : ChangeSpec := { name := "encWords", fn := fun _ => fun
  | [d1, d2, d3] => { results := [.lit (.bool false)], args := [d1, d2, d3] }
  | _ => none }
def EncWordsWrongFalsely : Prop := encWordsRow.holds Tryd.pinned (OpenSpec.ofChange encWordsWrong)

/-- 'shredcollaw1.EncLess': WHATEVER THE INPUT: true; the input reads as it did. -/
def encLessSpec : ChangeSpec := { name := "encLess", fn := fun _ => fun
  | [d1, d2] => { results := [.lit (.bool true)], args := [d1, d2] }
  | _ => none }
def encLessRow : OpenClaim := { program := "ytddefnnimbjnaaadoor", sum := "8da6f7e80104381c893c0fdf81b7c886ec77ffc275deccea83c9199b9acf4dca", func := "shredcol/shredcollaw1.EncLess", spec := "encLess", inPlace := ["internal/abi.NoEscape"], named := ["shredcol/api.ErrKind", "shredcol/api.ErrBound"], plainKeys := false, apart := false, laid := [("shredcol/api.ErrBound", laid_shredcol_api_ErrBound), ("shredcol/api.ErrKind", laid_shredcol_api_ErrKind)] }
def EncLessSaid : Prop := encLessRow.holds Tryd.pinned (OpenSpec.ofChange encLessSpec)

/-- ITS FALSE NEIGHBOUR: 'it returns false'. Refute it at one input. -/
def encLessWrong : ChangeSpec := { name := "encLess", fn := fun _ => fun
  | [d1, d2] => { results := [.lit (.bool false)], args := [d1, d2] }
  | _ => none }
def EncLessWrongFalsely : Prop := encLessRow.holds Tryd.pinned (OpenSpec.ofChange encLessWrong)

/-- 'shredcollaw1.EncOrder': WHATEVER THE INPUT: true; the input reads as it did. -/
def encOrderSpec : ChangeSpec := { name := "encOrder", fn := fun _ => fun
  | [d1, d2, d3] => { results := [.lit (.bool true)], args := [d1, d2, d3] }
  | _ => none }
def encOrderRow : OpenClaim := { program := "ytddefnnimbjnaaadoor", sum := "8da6f7e80104381c893c0fdf81b7c886ec77ffc275deccea83c9199b9acf4dca", func := "shredcol/shredcollaw1.EncOrder", spec := "encOrder", inPlace := ["internal/abi.NoEscape"], named := ["shredcol/api.ErrKind", "shredcol/api.ErrBound"], plainKeys := false, apart := false, laid := [("shredcol/api.ErrBound", laid_shredcol_api_ErrBound), ("shredcol/api.ErrKind", laid_shredcol_api_ErrKind)] }
def EncOrderSaid : Prop := encOrderRow.holds Tryd.pinned (OpenSpec.ofChange encOrderSpec)

/-- ITS FALSE NEIGHBOUR: 'it returns false'. Refute it at one input. -/
def encOrderWrong : ChangeSpec := { name := "encOrder", fn := fun _ => fun
  | [d1, d2, d3] => { results := [.lit (.bool false)], args := [d1, d2, d3] }
  | _ => none }
def EncOrderWrongFalsely : Prop := encOrderRow.holds Tryd.pinned (OpenSpec.ofChange encOrderWrong)

/-- 'shredcollaw1.EncPlain': WHATEVER THE INPUT: true; the input reads as it did. -/
def encPlainSpec : ChangeSpec := { name := "encPlain", fn := fun _ => fun
  | [d1, d2] => { results := [.lit (.bool true)], args := [d1, d2] }
  | _ => none }
def encPlainRow : OpenClaim := { program := "ytddefnnimbjnaaadoor", sum := "8da6f7e80104381c893c0fdf81b7c886ec77ffc275deccea83c9199b9acf4dca", func := "shredcol/shredcollaw1.EncPlain", spec := "encPlain", inPlace := ["internal/abi.NoEscape", "internal/reflectlite.ValueOf", "(internal/reflectlite.Value).Type", "(internal/reflectlite.Value).IsNil", "internal/reflectlite.TypeOf", "(internal/reflectlite.Value).Elem", "(internal/reflectlite.Value).Set"], unfollowed := true, recurses := true, named := ["shredcol/api.ErrKind", "shredcol/api.ErrBound", "shredcol/api.ErrText", "shredcol/api.ErrShape", "shredcol/api.ErrName", "shredcol/api.ErrNone", "shredcol/api.ErrSum", "shredcol/api.ErrSpace", "errors.errorType"], plainKeys := false, apart := false, laid := [("errors.errorType", laid_errors_errorType), ("shredcol/api.ErrText", laid_shredcol_api_ErrText), ("shredcol/api.ErrBound", laid_shredcol_api_ErrBound), ("shredcol/api.ErrShape", laid_shredcol_api_ErrShape), ("shredcol/api.ErrKind", laid_shredcol_api_ErrKind), ("shredcol/api.ErrName", laid_shredcol_api_ErrName), ("shredcol/api.ErrNone", laid_shredcol_api_ErrNone), ("shredcol/api.ErrSum", laid_shredcol_api_ErrSum), ("shredcol/api.ErrSpace", laid_shredcol_api_ErrSpace)] }
def EncPlainSaid : Prop := encPlainRow.holds Tryd.pinned (OpenSpec.ofChange encPlainSpec)

/-- ITS FALSE NEIGHBOUR: 'it returns false'. Refute it at one input. -/
def encPlainWrong : ChangeSpec := { name := "encPlain", fn := fun _ => fun
  | [d1, d2] => { results := [.lit (.bool false)], args := [d1, d2] }
  | _ => none }
def EncPlainWrongFalsely : Prop := encPlainRow.holds Tryd.pinned (OpenSpec.ofChange encPlainWrong)

/-- 'shredcollaw1.EncPrefix': WHATEVER THE INPUT: true; the input reads as it did. -/
def encPrefixSpec : ChangeSpec := { name := "encPrefix", fn := fun _ => fun
  | [d] => { results := [.lit (.bool true)], args := [d] }
  | _ => none }
def encPrefixRow : OpenClaim := { program := "ytddefnnimbjnaaadoor", sum := "8da6f7e80104381c893c0fdf81b7c886ec77ffc275deccea83c9199b9acf4dca", func := "shredcol/shredcollaw1.EncPrefix", spec := "encPrefix", inPlace := ["internal/abi.NoEscape", "internal/reflectlite.ValueOf", "(internal/reflectlite.Value).Type", "(internal/reflectlite.Value).IsNil", "internal/reflectlite.TypeOf", "(internal/reflectlite.Value).Elem", "(internal/reflectlite.Value).Set"], unfollowed := true, recurses := true, named := ["shredcol/api.ErrKind", "shredcol/api.ErrBound", "shredcol/api.ErrText", "shredcol/api.ErrShape", "shredcol/api.ErrName", "shredcol/api.ErrNone", "shredcol/api.ErrSum", "shredcol/api.ErrSpace", "errors.errorType"], plainKeys := false, apart := false, laid := [("errors.errorType", laid_errors_errorType), ("shredcol/api.ErrText", laid_shredcol_api_ErrText), ("shredcol/api.ErrBound", laid_shredcol_api_ErrBound), ("shredcol/api.ErrShape", laid_shredcol_api_ErrShape), ("shredcol/api.ErrKind", laid_shredcol_api_ErrKind), ("shredcol/api.ErrName", laid_shredcol_api_ErrName), ("shredcol/api.ErrNone", laid_shredcol_api_ErrNone), ("shredcol/api.ErrSum", laid_shredcol_api_ErrSum), ("shredcol/api.ErrSpace", laid_shredcol_api_ErrSpace)] }
def EncPrefixSaid : Prop := encPrefixRow.holds Tryd.pinned (OpenSpec.ofChange encPrefixSpec)

/-- ITS FALSE NEIGHBOUR: 'it returns false'. Refute it at one input. -/
def encPrefixWrong : ChangeSpec := { name := "encPrefix", fn := fun _ => fun
  | [d] => { results := [.lit (.bool false)], args := [d] }
  | _ => none }
def EncPrefixWrongFalsely : Prop := encPrefixRow.holds Tryd.pinned (OpenSpec.ofChange encPrefixWrong)

/-- 'shredcollaw1.EncAgain': WHATEVER THE INPUT: true; the input reads as it did. -/
def encAgainSpec : ChangeSpec := { name := "encAgain", fn := fun _ => fun
  | [d1, d2, d3] => { results := [.lit (.bool true)], args := [d1, d2, d3] }
  | _ => none }
def encAgainRow : OpenClaim := { program := "ytddefnnimbjnaaadoor", sum := "8da6f7e80104381c893c0fdf81b7c886ec77ffc275deccea83c9199b9acf4dca", func := "shredcol/shredcollaw1.EncAgain", spec := "encAgain", inPlace := ["internal/abi.NoEscape"], unfollowed := true, recurses := true, named := ["shredcol/api.ErrKind", "shredcol/api.ErrBound", "shredcol/api.ErrText"], plainKeys := false, apart := false, laid := [("shredcol/api.ErrText", laid_shredcol_api_ErrText), ("shredcol/api.ErrBound", laid_shredcol_api_ErrBound), ("shredcol/api.ErrKind", laid_shredcol_api_ErrKind)] }
def EncAgainSaid : Prop := encAgainRow.holds Tryd.pinned (OpenSpec.ofChange encAgainSpec)

/-- ITS FALSE NEIGHBOUR: 'it returns false'. Refute it at one input. -/
def encAgainWrong : ChangeSpec := { name := "encAgain", fn := fun _ => fun
  | [d1, d2, d3] => { results := [.lit (.bool false)], args := [d1, d2, d3] }
  | _ => none }
def EncAgainWrongFalsely : Prop := encAgainRow.holds Tryd.pinned (OpenSpec.ofChange encAgainWrong)

/-- 'shredcollaw1.EncDelta': WHATEVER THE INPUT: true; the input reads as it did. -/
def encDeltaSpec : ChangeSpec := { name := "encDelta", fn := fun _ => fun
  | [d1, d2] => { results := [.lit (.bool true)], args := [d1, d2] }
  | _ => none }
def encDeltaRow : OpenClaim := { program := "ytddefnnimbjnaaadoor", sum := "8da6f7e80104381c893c0fdf81b7c886ec77ffc275deccea83c9199b9acf4dca", func := "shredcol/shredcollaw1.EncDelta", spec := "encDelta", inPlace := ["internal/abi.NoEscape", "internal/reflectlite.ValueOf", "(internal/reflectlite.Value).Type", "(internal/reflectlite.Value).IsNil", "internal/reflectlite.TypeOf", "(internal/reflectlite.Value).Elem", "(internal/reflectlite.Value).Set"], unfollowed := true, recurses := true, named := ["shredcol/api.ErrKind", "shredcol/api.ErrBound", "shredcol/api.ErrText", "shredcol/api.ErrShape", "shredcol/api.ErrName", "shredcol/api.ErrNone", "shredcol/api.ErrSum", "shredcol/api.ErrSpace", "errors.errorType"], plainKeys := false, apart := false, laid := [("errors.errorType", laid_errors_errorType), ("shredcol/api.ErrText", laid_shredcol_api_ErrText), ("shredcol/api.ErrBound", laid_shredcol_api_ErrBound), ("shredcol/api.ErrShape", laid_shredcol_api_ErrShape), ("shredcol/api.ErrKind", laid_shredcol_api_ErrKind), ("shredcol/api.ErrName", laid_shredcol_api_ErrName), ("shredcol/api.ErrNone", laid_shredcol_api_ErrNone), ("shredcol/api.ErrSum", laid_shredcol_api_ErrSum), ("shredcol/api.ErrSpace", laid_shredcol_api_ErrSpace)] }
def EncDeltaSaid : Prop := encDeltaRow.holds Tryd.pinned (OpenSpec.ofChange encDeltaSpec)

/-- ITS FALSE NEIGHBOUR: 'it returns false'. Refute it at one input. -/
def encDeltaWrong : ChangeSpec := { name := "encDelta", fn := fun _ => fun
  | [d1, d2] => { results := [.lit (.bool false)], args := [d1, d2] }
  | _ => none }
def EncDeltaWrongFalsely : Prop := encDeltaRow.holds Tryd.pinned (OpenSpec.ofChange encDeltaWrong)

/-- 'shredcollaw1.EncDict': WHATEVER THE INPUT: true; the input reads as it did. -/
def encDictSpec : ChangeSpec := { name := "encDict", fn := fun _ => fun
  | [d1, d2] => { results := [.lit (.bool true)], args := [d1, d2] }
  | _ => none }
def encDictRow : OpenClaim := { program := "ytddefnnimbjnaaadoor", sum := "8da6f7e80104381c893c0fdf81b7c886ec77ffc275deccea83c9199b9acf4dca", func := "shredcol/shredcollaw1.EncDict", spec := "encDict", inPlace := ["internal/abi.NoEscape", "internal/reflectlite.ValueOf", "(internal/reflectlite.Value).Type", "(internal/reflectlite.Value).IsNil", "internal/reflectlite.TypeOf", "(internal/reflectlite.Value).Elem", "(internal/reflectlite.Value).Set"], unfollowed := true, recurses := true, named := ["shredcol/api.ErrKind", "shredcol/api.ErrBound", "shredcol/api.ErrShape", "shredcol/api.ErrText", "shredcol/api.ErrName", "shredcol/api.ErrNone", "shredcol/api.ErrSum", "shredcol/api.ErrSpace", "errors.errorType"], plainKeys := false, apart := false, laid := [("errors.errorType", laid_errors_errorType), ("shredcol/api.ErrText", laid_shredcol_api_ErrText), ("shredcol/api.ErrBound", laid_shredcol_api_ErrBound), ("shredcol/api.ErrShape", laid_shredcol_api_ErrShape), ("shredcol/api.ErrKind", laid_shredcol_api_ErrKind), ("shredcol/api.ErrName", laid_shredcol_api_ErrName), ("shredcol/api.ErrNone", laid_shredcol_api_ErrNone), ("shredcol/api.ErrSum", laid_shredcol_api_ErrSum), ("shredcol/api.ErrSpace", laid_shredcol_api_ErrSpace)] }
def EncDictSaid : Prop := encDictRow.holds Tryd.pinned (OpenSpec.ofChange encDictSpec)

/-- ITS FALSE NEIGHBOUR: 'it returns false'. Refute it at one input. -/
def encDictWrong : ChangeSpec := { name := "encDict", fn := fun _ => fun
  | [d1, d2] => { results := [.lit (.bool false)], args := [d1, d2] }
  | _ => none }
def EncDictWrongFalsely : Prop := encDictRow.holds Tryd.pinned (OpenSpec.ofChange encDictWrong)

/-- 'shredcollaw1.EncBest': WHATEVER THE INPUT: true; the input reads as it did. -/
def encBestSpec : ChangeSpec := { name := "encBest", fn := fun _ => fun
  | [d1, d2] => { results := [.lit (.bool true)], args := [d1, d2] }
  | _ => none }
def encBestRow : OpenClaim := { program := "ytddefnnimbjnaaadoor", sum := "8da6f7e80104381c893c0fdf81b7c886ec77ffc275deccea83c9199b9acf4dca", func := "shredcol/shredcollaw1.EncBest", spec := "encBest", inPlace := ["internal/abi.NoEscape", "internal/reflectlite.ValueOf", "(internal/reflectlite.Value).Type", "(internal/reflectlite.Value).IsNil", "internal/reflectlite.TypeOf", "(internal/reflectlite.Value).Elem", "(internal/reflectlite.Value).Set"], unfollowed := true, recurses := true, named := ["shredcol/api.ErrKind", "shredcol/api.ErrBound", "shredcol/api.ErrShape", "shredcol/api.ErrText", "shredcol/api.ErrName", "shredcol/api.ErrNone", "shredcol/api.ErrSum", "shredcol/api.ErrSpace", "errors.errorType"], plainKeys := false, apart := false, laid := [("errors.errorType", laid_errors_errorType), ("shredcol/api.ErrText", laid_shredcol_api_ErrText), ("shredcol/api.ErrBound", laid_shredcol_api_ErrBound), ("shredcol/api.ErrShape", laid_shredcol_api_ErrShape), ("shredcol/api.ErrKind", laid_shredcol_api_ErrKind), ("shredcol/api.ErrName", laid_shredcol_api_ErrName), ("shredcol/api.ErrNone", laid_shredcol_api_ErrNone), ("shredcol/api.ErrSum", laid_shredcol_api_ErrSum), ("shredcol/api.ErrSpace", laid_shredcol_api_ErrSpace)] }
def EncBestSaid : Prop := encBestRow.holds Tryd.pinned (OpenSpec.ofChange encBestSpec)

/-- ITS FALSE NEIGHBOUR: 'it returns false'. Refute it at one input. -/
def encBestWrong : ChangeSpec := { name := "encBest", fn := fun _ => fun
  | [d1, d2] => { results := [.lit (.bool false)], args := [d1, d2] }
  | _ => none }
def EncBestWrongFalsely : Prop := encBestRow.holds Tryd.pinned (OpenSpec.ofChange encBestWrong)

/-- 'shredcollaw1.EncTwice': WHATEVER THE INPUT: true; the input reads as it did. -/
def encTwiceSpec : ChangeSpec := { name := "encTwice", fn := fun _ => fun
  | [d1, d2] => { results := [.lit (.bool true)], args := [d1, d2] }
  | _ => none }
def encTwiceRow : OpenClaim := { program := "ytddefnnimbjnaaadoor", sum := "8da6f7e80104381c893c0fdf81b7c886ec77ffc275deccea83c9199b9acf4dca", func := "shredcol/shredcollaw1.EncTwice", spec := "encTwice", inPlace := ["internal/abi.NoEscape"], unfollowed := true, recurses := true, named := ["shredcol/api.ErrKind", "shredcol/api.ErrBound", "shredcol/api.ErrText", "shredcol/api.ErrShape"], plainKeys := false, apart := false, laid := [("shredcol/api.ErrText", laid_shredcol_api_ErrText), ("shredcol/api.ErrBound", laid_shredcol_api_ErrBound), ("shredcol/api.ErrShape", laid_shredcol_api_ErrShape), ("shredcol/api.ErrKind", laid_shredcol_api_ErrKind)] }
def EncTwiceSaid : Prop := encTwiceRow.holds Tryd.pinned (OpenSpec.ofChange encTwiceSpec)

/-- ITS FALSE NEIGHBOUR: 'it returns false'. Refute it at one input. -/
def encTwiceWrong : ChangeSpec := { name := "encTwice", fn := fun _ => fun
  | [d1, d2] => { results := [.lit (.bool false)], args := [d1, d2] }
  | _ => none }
def EncTwiceWrongFalsely : Prop := encTwiceRow.holds Tryd.pinned (OpenSpec.ofChange encTwiceWrong)

/-- 'shredcollaw1.EncEach': WHATEVER THE INPUT: true; the input reads as it did. -/
def encEachSpec : ChangeSpec := { name := "encEach", fn := fun _ => fun
  | [d1, d2, d3] => { results := [.lit (.bool true)], args := [d1, d2, d3] }
  | _ => none }
def encEachRow : OpenClaim := { program := "ytddefnnimbjnaaadoor", sum := "8da6f7e80104381c893c0fdf81b7c886ec77ffc275deccea83c9199b9acf4dca", func := "shredcol/shredcollaw1.EncEach", spec := "encEach", inPlace := ["internal/abi.NoEscape", "internal/reflectlite.ValueOf", "(internal/reflectlite.Value).Type", "(internal/reflectlite.Value).IsNil", "internal/reflectlite.TypeOf", "(internal/reflectlite.Value).Elem", "(internal/reflectlite.Value).Set"], unfollowed := true, recurses := true, named := ["shredcol/api.ErrKind", "shredcol/api.ErrBound", "shredcol/api.ErrText", "shredcol/api.ErrShape", "shredcol/api.ErrName", "shredcol/api.ErrNone", "shredcol/api.ErrSum", "shredcol/api.ErrSpace", "errors.errorType"], plainKeys := false, apart := false, laid := [("errors.errorType", laid_errors_errorType), ("shredcol/api.ErrText", laid_shredcol_api_ErrText), ("shredcol/api.ErrBound", laid_shredcol_api_ErrBound), ("shredcol/api.ErrShape", laid_shredcol_api_ErrShape), ("shredcol/api.ErrKind", laid_shredcol_api_ErrKind), ("shredcol/api.ErrName", laid_shredcol_api_ErrName), ("shredcol/api.ErrNone", laid_shredcol_api_ErrNone), ("shredcol/api.ErrSum", laid_shredcol_api_ErrSum), ("shredcol/api.ErrSpace", laid_shredcol_api_ErrSpace)] }
def EncEachSaid : Prop := encEachRow.holds Tryd.pinned (OpenSpec.ofChange encEachSpec)

/-- ITS FALSE NEIGHBOUR: 'it returns false'. Refute it at one input. -/
def encEachWrong : ChangeSpec := { name := "encEach", fn := fun _ => fun
  | [d1, d2, d3] => { results := [.lit (.bool false)], args := [d1, d2, d3] }
  | _ => none }
def EncEachWrongFalsely : Prop := encEachRow.holds Tryd.pinned (OpenSpec.ofChange encEachWrong)

/-- 'shredcollaw1.EncReads': WHATEVER THE INPUT: true; the input reads as it did. -/
def encReadsSpec : ChangeSpec := { name := "encReads", fn := fun _ => fun
  | [d1, d2, d3, d4] => { results := [.lit (.bool true)], args := [d1, d2, d3, d4] }
  | _ => none }
def encReadsRow : OpenClaim := { program := "ytddefnnimbjnaaadoor", sum := "8da6f7e80104381c893c0fdf81b7c886ec77ffc275deccea83c9199b9acf4dca", func := "shredcol/shredcollaw1.EncReads", spec := "encReads", inPlace := ["internal/abi.NoEscape", "internal/reflectlite.ValueOf", "(internal/reflectlite.Value).Type", "(internal/reflectlite.Value).IsNil", "internal/reflectlite.TypeOf", "(internal/reflectlite.Value).Elem", "(internal/reflectlite.Value).Set"], unfollowed := true, recurses := true, named := ["shredcol/api.ErrKind", "shredcol/api.ErrBound", "shredcol/api.ErrShape", "shredcol/api.ErrText", "shredcol/api.ErrName", "shredcol/api.ErrNone", "shredcol/api.ErrSum", "shredcol/api.ErrSpace", "errors.errorType"], plainKeys := false, apart := false, laid := [("errors.errorType", laid_errors_errorType), ("shredcol/api.ErrText", laid_shredcol_api_ErrText), ("shredcol/api.ErrBound", laid_shredcol_api_ErrBound), ("shredcol/api.ErrShape", laid_shredcol_api_ErrShape), ("shredcol/api.ErrKind", laid_shredcol_api_ErrKind), ("shredcol/api.ErrName", laid_shredcol_api_ErrName), ("shredcol/api.ErrNone", laid_shredcol_api_ErrNone), ("shredcol/api.ErrSum", laid_shredcol_api_ErrSum), ("shredcol/api.ErrSpace", laid_shredcol_api_ErrSpace)] }
def EncReadsSaid : Prop := encReadsRow.holds Tryd.pinned (OpenSpec.ofChange encReadsSpec)

/-- ITS FALSE NEIGHBOUR: 'it returns false'. Refute it at one input. -/
def encReadsWrong : ChangeSpec := { name := "encReads", fn := fun _ => fun
  | [d1, d2, d3, d4] => { results := [.lit (.bool false)], args := [d1, d2, d3, d4] }
  | _ => none }
def EncReadsWrongFalsely : Prop := encReadsRow.holds Tryd.pinned (OpenSpec.ofChange encReadsWrong)

/- THE SECOND FORM. 'bulk': how many values and letters a reading holds, each counted each time it is reached (what is shared counts as often as it is met; a slice's spare places count too). A statement '..UptoSaid' is the law's where the arguments, and the package variables that the reading takes, are together of bulk at most 1048576: NARROWER than '..Said'. Prove '..Said' where nothing that the law and all that it calls make is longer than what came in: it says more and counts as full. Else prove '..UptoSaid'. A law counts once. -/
mutual
def uptoBulk {H : Type} : DataW H → Nat
  | .lit (.string bytes) => bytes.length + 1
  | .lit _ => 1
  | .nil => 1
  | .ptr d => uptoBulk d + 1
  | .slice elems spare => uptoBulkAll elems + uptoBulkAll spare + 1
  | .agg parts => uptoBulkAll parts + 1
  | .iface _ d => uptoBulk d + 1
  | .map entries => uptoBulkEntries entries + 1
  | .held _ => 1
def uptoBulkAll {H : Type} : List (DataW H) → Nat
  | [] => 0
  | d :: r => uptoBulk d + uptoBulkAll r
def uptoBulkEntries {H : Type} : List (Lit × DataW H) → Nat
  | [] => 0
  | x :: r => uptoBulkEntry x + uptoBulkEntries r
def uptoBulkEntry {H : Type} : Lit × DataW H → Nat
  | (.string bytes, d) => bytes.length + uptoBulk d + 1
  | (_, d) => uptoBulk d + 1
 end
def uptoSmall : (H : Type) → List (DataW H) → Bool := fun _ ds => decide (uptoBulkAll ds ≤ 1048576)
def OpenSpec.upto (s : _root_.Go.ChangeSpec) : _root_.Go.OpenSpec := { _root_.Go.OpenSpec.ofChange s with cond := some uptoSmall }

/-- 'shredcollaw1.EncWords', WHERE WHAT IT READS IS OF BULK AT MOST 1048576: true; the input reads as it did. -/
def encWordsUptoRow : OpenClaim := { program := "ytddefnnimbjnaaadoor", sum := "8da6f7e80104381c893c0fdf81b7c886ec77ffc275deccea83c9199b9acf4dca", func := "shredcol/shredcollaw1.EncWords", spec := "encWords", inPlace := ["internal/abi.NoEscape"], named := ["shredcol/api.ErrKind", "shredcol/api.ErrBound"], plainKeys := false, apart := false, laid := [("shredcol/api.ErrBound", laid_shredcol_api_ErrBound), ("shredcol/api.ErrKind", laid_shredcol_api_ErrKind)], narrowed := true }
def EncWordsUptoSaid : Prop := encWordsUptoRow.holds Tryd.pinned (OpenSpec.upto encWordsSpec)

/-- 'shredcollaw1.EncLess', WHERE WHAT IT READS IS OF BULK AT MOST 1048576: true; the input reads as it did. -/
def encLessUptoRow : OpenClaim := { program := "ytddefnnimbjnaaadoor", sum := "8da6f7e80104381c893c0fdf81b7c886ec77ffc275deccea83c9199b9acf4dca", func := "shredcol/shredcollaw1.EncLess", spec := "encLess", inPlace := ["internal/abi.NoEscape"], named := ["shredcol/api.ErrKind", "shredcol/api.ErrBound"], plainKeys := false, apart := false, laid := [("shredcol/api.ErrBound", laid_shredcol_api_ErrBound), ("shredcol/api.ErrKind", laid_shredcol_api_ErrKind)], narrowed := true }
def EncLessUptoSaid : Prop := encLessUptoRow.holds Tryd.pinned (OpenSpec.upto encLessSpec)

/-- 'shredcollaw1.EncOrder', WHERE WHAT IT READS IS OF BULK AT MOST 1048576: true; the input reads as it did. -/
def encOrderUptoRow : OpenClaim := { program := "ytddefnnimbjnaaadoor", sum := "8da6f7e80104381c893c0fdf81b7c886ec77ffc275deccea83c9199b9acf4dca", func := "shredcol/shredcollaw1.EncOrder", spec := "encOrder", inPlace := ["internal/abi.NoEscape"], named := ["shredcol/api.ErrKind", "shredcol/api.ErrBound"], plainKeys := false, apart := false, laid := [("shredcol/api.ErrBound", laid_shredcol_api_ErrBound), ("shredcol/api.ErrKind", laid_shredcol_api_ErrKind)], narrowed := true }
def EncOrderUptoSaid : Prop := encOrderUptoRow.holds Tryd.pinned (OpenSpec.upto encOrderSpec)

/-- 'shredcollaw1.EncPlain', WHERE WHAT IT READS IS OF BULK AT MOST 1048576: true; the input reads as it did. -/
def encPlainUptoRow : OpenClaim := { program := "ytddefnnimbjnaaadoor", sum := "8da6f7e80104381c893c0fdf81b7c886ec77ffc275deccea83c9199b9acf4dca", func := "shredcol/shredcollaw1.EncPlain", spec := "encPlain", inPlace := ["internal/abi.NoEscape", "internal/reflectlite.ValueOf", "(internal/reflectlite.Value).Type", "(internal/reflectlite.Value).IsNil", "internal/reflectlite.TypeOf", "(internal/reflectlite.Value).Elem", "(internal/reflectlite.Value).Set"], unfollowed := true, recurses := true, named := ["shredcol/api.ErrKind", "shredcol/api.ErrBound", "shredcol/api.ErrText", "shredcol/api.ErrShape", "shredcol/api.ErrName", "shredcol/api.ErrNone", "shredcol/api.ErrSum", "shredcol/api.ErrSpace", "errors.errorType"], plainKeys := false, apart := false, laid := [("errors.errorType", laid_errors_errorType), ("shredcol/api.ErrText", laid_shredcol_api_ErrText), ("shredcol/api.ErrBound", laid_shredcol_api_ErrBound), ("shredcol/api.ErrShape", laid_shredcol_api_ErrShape), ("shredcol/api.ErrKind", laid_shredcol_api_ErrKind), ("shredcol/api.ErrName", laid_shredcol_api_ErrName), ("shredcol/api.ErrNone", laid_shredcol_api_ErrNone), ("shredcol/api.ErrSum", laid_shredcol_api_ErrSum), ("shredcol/api.ErrSpace", laid_shredcol_api_ErrSpace)], narrowed := true }
def EncPlainUptoSaid : Prop := encPlainUptoRow.holds Tryd.pinned (OpenSpec.upto encPlainSpec)

/-- 'shredcollaw1.EncPrefix', WHERE WHAT IT READS IS OF BULK AT MOST 1048576: true; the input reads as it did. -/
def encPrefixUptoRow : OpenClaim := { program := "ytddefnnimbjnaaadoor", sum := "8da6f7e80104381c893c0fdf81b7c886ec77ffc275deccea83c9199b9acf4dca", func := "shredcol/shredcollaw1.EncPrefix", spec := "encPrefix", inPlace := ["internal/abi.NoEscape", "internal/reflectlite.ValueOf", "(internal/reflectlite.Value).Type", "(internal/reflectlite.Value).IsNil", "internal/reflectlite.TypeOf", "(internal/reflectlite.Value).Elem", "(internal/reflectlite.Value).Set"], unfollowed := true, recurses := true, named := ["shredcol/api.ErrKind", "shredcol/api.ErrBound", "shredcol/api.ErrText", "shredcol/api.ErrShape", "shredcol/api.ErrName", "shredcol/api.ErrNone", "shredcol/api.ErrSum", "shredcol/api.ErrSpace", "errors.errorType"], plainKeys := false, apart := false, laid := [("errors.errorType", laid_errors_errorType), ("shredcol/api.ErrText", laid_shredcol_api_ErrText), ("shredcol/api.ErrBound", laid_shredcol_api_ErrBound), ("shredcol/api.ErrShape", laid_shredcol_api_ErrShape), ("shredcol/api.ErrKind", laid_shredcol_api_ErrKind), ("shredcol/api.ErrName", laid_shredcol_api_ErrName), ("shredcol/api.ErrNone", laid_shredcol_api_ErrNone), ("shredcol/api.ErrSum", laid_shredcol_api_ErrSum), ("shredcol/api.ErrSpace", laid_shredcol_api_ErrSpace)], narrowed := true }
def EncPrefixUptoSaid : Prop := encPrefixUptoRow.holds Tryd.pinned (OpenSpec.upto encPrefixSpec)

/-- 'shredcollaw1.EncAgain', WHERE WHAT IT READS IS OF BULK AT MOST 1048576: true; the input reads as it did. -/
def encAgainUptoRow : OpenClaim := { program := "ytddefnnimbjnaaadoor", sum := "8da6f7e80104381c893c0fdf81b7c886ec77ffc275deccea83c9199b9acf4dca", func := "shredcol/shredcollaw1.EncAgain", spec := "encAgain", inPlace := ["internal/abi.NoEscape"], unfollowed := true, recurses := true, named := ["shredcol/api.ErrKind", "shredcol/api.ErrBound", "shredcol/api.ErrText"], plainKeys := false, apart := false, laid := [("shredcol/api.ErrText", laid_shredcol_api_ErrText), ("shredcol/api.ErrBound", laid_shredcol_api_ErrBound), ("shredcol/api.ErrKind", laid_shredcol_api_ErrKind)], narrowed := true }
def EncAgainUptoSaid : Prop := encAgainUptoRow.holds Tryd.pinned (OpenSpec.upto encAgainSpec)

/-- 'shredcollaw1.EncDelta', WHERE WHAT IT READS IS OF BULK AT MOST 1048576: true; the input reads as it did. -/
def encDeltaUptoRow : OpenClaim := { program := "ytddefnnimbjnaaadoor", sum := "8da6f7e80104381c893c0fdf81b7c886ec77ffc275deccea83c9199b9acf4dca", func := "shredcol/shredcollaw1.EncDelta", spec := "encDelta", inPlace := ["internal/abi.NoEscape", "internal/reflectlite.ValueOf", "(internal/reflectlite.Value).Type", "(internal/reflectlite.Value).IsNil", "internal/reflectlite.TypeOf", "(internal/reflectlite.Value).Elem", "(internal/reflectlite.Value).Set"], unfollowed := true, recurses := true, named := ["shredcol/api.ErrKind", "shredcol/api.ErrBound", "shredcol/api.ErrText", "shredcol/api.ErrShape", "shredcol/api.ErrName", "shredcol/api.ErrNone", "shredcol/api.ErrSum", "shredcol/api.ErrSpace", "errors.errorType"], plainKeys := false, apart := false, laid := [("errors.errorType", laid_errors_errorType), ("shredcol/api.ErrText", laid_shredcol_api_ErrText), ("shredcol/api.ErrBound", laid_shredcol_api_ErrBound), ("shredcol/api.ErrShape", laid_shredcol_api_ErrShape), ("shredcol/api.ErrKind", laid_shredcol_api_ErrKind), ("shredcol/api.ErrName", laid_shredcol_api_ErrName), ("shredcol/api.ErrNone", laid_shredcol_api_ErrNone), ("shredcol/api.ErrSum", laid_shredcol_api_ErrSum), ("shredcol/api.ErrSpace", laid_shredcol_api_ErrSpace)], narrowed := true }
def EncDeltaUptoSaid : Prop := encDeltaUptoRow.holds Tryd.pinned (OpenSpec.upto encDeltaSpec)

/-- 'shredcollaw1.EncDict', WHERE WHAT IT READS IS OF BULK AT MOST 1048576: true; the input reads as it did. -/
def encDictUptoRow : OpenClaim := { program := "ytddefnnimbjnaaadoor", sum := "8da6f7e80104381c893c0fdf81b7c886ec77ffc275deccea83c9199b9acf4dca", func := "shredcol/shredcollaw1.EncDict", spec := "encDict", inPlace := ["internal/abi.NoEscape", "internal/reflectlite.ValueOf", "(internal/reflectlite.Value).Type", "(internal/reflectlite.Value).IsNil", "internal/reflectlite.TypeOf", "(internal/reflectlite.Value).Elem", "(internal/reflectlite.Value).Set"], unfollowed := true, recurses := true, named := ["shredcol/api.ErrKind", "shredcol/api.ErrBound", "shredcol/api.ErrShape", "shredcol/api.ErrText", "shredcol/api.ErrName", "shredcol/api.ErrNone", "shredcol/api.ErrSum", "shredcol/api.ErrSpace", "errors.errorType"], plainKeys := false, apart := false, laid := [("errors.errorType", laid_errors_errorType), ("shredcol/api.ErrText", laid_shredcol_api_ErrText), ("shredcol/api.ErrBound", laid_shredcol_api_ErrBound), ("shredcol/api.ErrShape", laid_shredcol_api_ErrShape), ("shredcol/api.ErrKind", laid_shredcol_api_ErrKind), ("shredcol/api.ErrName", laid_shredcol_api_ErrName), ("shredcol/api.ErrNone", laid_shredcol_api_ErrNone), ("shredcol/api.ErrSum", laid_shredcol_api_ErrSum), ("shredcol/api.ErrSpace", laid_shredcol_api_ErrSpace)], narrowed := true }
def EncDictUptoSaid : Prop := encDictUptoRow.holds Tryd.pinned (OpenSpec.upto encDictSpec)

/-- 'shredcollaw1.EncBest', WHERE WHAT IT READS IS OF BULK AT MOST 1048576: true; the input reads as it did. -/
def encBestUptoRow : OpenClaim := { program := "ytddefnnimbjnaaadoor", sum := "8da6f7e80104381c893c0fdf81b7c886ec77ffc275deccea83c9199b9acf4dca", func := "shredcol/shredcollaw1.EncBest", spec := "encBest", inPlace := ["internal/abi.NoEscape", "internal/reflectlite.ValueOf", "(internal/reflectlite.Value).Type", "(internal/reflectlite.Value).IsNil", "internal/reflectlite.TypeOf", "(internal/reflectlite.Value).Elem", "(internal/reflectlite.Value).Set"], unfollowed := true, recurses := true, named := ["shredcol/api.ErrKind", "shredcol/api.ErrBound", "shredcol/api.ErrShape", "shredcol/api.ErrText", "shredcol/api.ErrName", "shredcol/api.ErrNone", "shredcol/api.ErrSum", "shredcol/api.ErrSpace", "errors.errorType"], plainKeys := false, apart := false, laid := [("errors.errorType", laid_errors_errorType), ("shredcol/api.ErrText", laid_shredcol_api_ErrText), ("shredcol/api.ErrBound", laid_shredcol_api_ErrBound), ("shredcol/api.ErrShape", laid_shredcol_api_ErrShape), ("shredcol/api.ErrKind", laid_shredcol_api_ErrKind), ("shredcol/api.ErrName", laid_shredcol_api_ErrName), ("shredcol/api.ErrNone", laid_shredcol_api_ErrNone), ("shredcol/api.ErrSum", laid_shredcol_api_ErrSum), ("shredcol/api.ErrSpace", laid_shredcol_api_ErrSpace)], narrowed := true }
def EncBestUptoSaid : Prop := encBestUptoRow.holds Tryd.pinned (OpenSpec.upto encBestSpec)

/-- 'shredcollaw1.EncTwice', WHERE WHAT IT READS IS OF BULK AT MOST 1048576: true; the input reads as it did. -/
def encTwiceUptoRow : OpenClaim := { program := "ytddefnnimbjnaaadoor", sum := "8da6f7e80104381c893c0fdf81b7c886ec77ffc275deccea83c9199b9acf4dca", func := "shredcol/shredcollaw1.EncTwice", spec := "encTwice", inPlace := ["internal/abi.NoEscape"], unfollowed := true, recurses := true, named := ["shredcol/api.ErrKind", "shredcol/api.ErrBound", "shredcol/api.ErrText", "shredcol/api.ErrShape"], plainKeys := false, apart := false, laid := [("shredcol/api.ErrText", laid_shredcol_api_ErrText), ("shredcol/api.ErrBound", laid_shredcol_api_ErrBound), ("shredcol/api.ErrShape", laid_shredcol_api_ErrShape), ("shredcol/api.ErrKind", laid_shredcol_api_ErrKind)], narrowed := true }
def EncTwiceUptoSaid : Prop := encTwiceUptoRow.holds Tryd.pinned (OpenSpec.upto encTwiceSpec)

/-- 'shredcollaw1.EncEach', WHERE WHAT IT READS IS OF BULK AT MOST 1048576: true; the input reads as it did. -/
def encEachUptoRow : OpenClaim := { program := "ytddefnnimbjnaaadoor", sum := "8da6f7e80104381c893c0fdf81b7c886ec77ffc275deccea83c9199b9acf4dca", func := "shredcol/shredcollaw1.EncEach", spec := "encEach", inPlace := ["internal/abi.NoEscape", "internal/reflectlite.ValueOf", "(internal/reflectlite.Value).Type", "(internal/reflectlite.Value).IsNil", "internal/reflectlite.TypeOf", "(internal/reflectlite.Value).Elem", "(internal/reflectlite.Value).Set"], unfollowed := true, recurses := true, named := ["shredcol/api.ErrKind", "shredcol/api.ErrBound", "shredcol/api.ErrText", "shredcol/api.ErrShape", "shredcol/api.ErrName", "shredcol/api.ErrNone", "shredcol/api.ErrSum", "shredcol/api.ErrSpace", "errors.errorType"], plainKeys := false, apart := false, laid := [("errors.errorType", laid_errors_errorType), ("shredcol/api.ErrText", laid_shredcol_api_ErrText), ("shredcol/api.ErrBound", laid_shredcol_api_ErrBound), ("shredcol/api.ErrShape", laid_shredcol_api_ErrShape), ("shredcol/api.ErrKind", laid_shredcol_api_ErrKind), ("shredcol/api.ErrName", laid_shredcol_api_ErrName), ("shredcol/api.ErrNone", laid_shredcol_api_ErrNone), ("shredcol/api.ErrSum", laid_shredcol_api_ErrSum), ("shredcol/api.ErrSpace", laid_shredcol_api_ErrSpace)], narrowed := true }
def EncEachUptoSaid : Prop := encEachUptoRow.holds Tryd.pinned (OpenSpec.upto encEachSpec)

/-- 'shredcollaw1.EncReads', WHERE WHAT IT READS IS OF BULK AT MOST 1048576: true; the input reads as it did. -/
def encReadsUptoRow : OpenClaim := { program := "ytddefnnimbjnaaadoor", sum := "8da6f7e80104381c893c0fdf81b7c886ec77ffc275deccea83c9199b9acf4dca", func := "shredcol/shredcollaw1.EncReads", spec := "encReads", inPlace := ["internal/abi.NoEscape", "internal/reflectlite.ValueOf", "(internal/reflectlite.Value).Type", "(internal/reflectlite.Value).IsNil", "internal/reflectlite.TypeOf", "(internal/reflectlite.Value).Elem", "(internal/reflectlite.Value).Set"], unfollowed := true, recurses := true, named := ["shredcol/api.ErrKind", "shredcol/api.ErrBound", "shredcol/api.ErrShape", "shredcol/api.ErrText", "shredcol/api.ErrName", "shredcol/api.ErrNone", "shredcol/api.ErrSum", "shredcol/api.ErrSpace", "errors.errorType"], plainKeys := false, apart := false, laid := [("errors.errorType", laid_errors_errorType), ("shredcol/api.ErrText", laid_shredcol_api_ErrText), ("shredcol/api.ErrBound", laid_shredcol_api_ErrBound), ("shredcol/api.ErrShape", laid_shredcol_api_ErrShape), ("shredcol/api.ErrKind", laid_shredcol_api_ErrKind), ("shredcol/api.ErrName", laid_shredcol_api_ErrName), ("shredcol/api.ErrNone", laid_shredcol_api_ErrNone), ("shredcol/api.ErrSum", laid_shredcol_api_ErrSum), ("shredcol/api.ErrSpace", laid_shredcol_api_ErrSpace)], narrowed := true }
def EncReadsUptoSaid : Prop := encReadsUptoRow.holds Tryd.pinned (OpenSpec.upto encReadsSpec)

end Rows
end Go.Proofs.YtddefnnimbjnaaaDoor
