/-
  No cell of these rows narrows 'for every input' (looked for: loops, veiled, ifaces, maps, wideKeys, modest, calm, conditions, laid).
  DERIVED. THE GIVEN ROWS OF THIS SEAT. 5 by the template 'for every input the law returns true; each argument reads behind the call as it read before'; 0 by the template 'total and deterministic' (their statements: YtehklkmnbhgebaaTotals.lean).
  GIVEN WITH THE SEED: the statements are not yours to turn. If you find one false, say at which input.
  Laid BY PROGRAM, IN A SANDBOX (cutbox-rows.mjs): the forced cells as the released guide's own fill.sh prints them over the translation 1bd8278df40ec45b… (all of the seat's roots in one cut). By AI agents, Wed Nov 11 2026. No macro, syntax, notation, axiom, sorry.
-/
import Derived.Test.YtehklkmnbhgebaaChecked
import GoSem.Claim
import GoSem.ClaimJoined
import GoSem.ClaimMapViews
import Derived.JoinedTies
import Derived.KernelRfl
namespace Go.Proofs.Ytehklkmnbhgebaa
/- THE CELL 'sum', in the pinned program and in every row, IS THE sha256 OF THE DUMP (.gsa) THAT YtehklkmnbhgebaaProg.lean LOADS. Nothing in Lean hashes anything: it is a label: what it is worth is what the hold of that sum in a sandbox is worth. -/
noncomputable def Try.pinned : Pinned := { name := "ytehklkmnbhgebaa", sum := "1bd8278df40ec45bc223371c0d37226649b60591671d6dde7baa192b7da0f0df", checked := Try.checked }
namespace Rows
def none {H : Type} : Left H := { results := [], args := [] }

/-- 'shredcollaw1.WireUvarint': WHATEVER THE INPUT: true; the input reads as it did. -/
def wireUvarintSpec : ChangeSpec := { name := "wireUvarint", fn := fun _ => fun
  | [d] => { results := [.lit (.bool true)], args := [d] }
  | _ => none }
def wireUvarintRow : OpenClaim := { program := "ytehklkmnbhgebaa", sum := "1bd8278df40ec45bc223371c0d37226649b60591671d6dde7baa192b7da0f0df", func := "shredcol/shredcollaw1.WireUvarint", spec := "wireUvarint", apart := false }
def WireUvarintSaid : Prop := wireUvarintRow.holds Try.pinned (OpenSpec.ofChange wireUvarintSpec)

/-- ITS FALSE NEIGHBOUR: 'it returns false'. Refute it at one input. -/
def wireUvarintWrong : ChangeSpec := { name := "wireUvarint", fn := fun _ => fun
  | [d] => { results := [.lit (.bool false)], args := [d] }
  | _ => none }
def WireUvarintWrongFalsely : Prop := wireUvarintRow.holds Try.pinned (OpenSpec.ofChange wireUvarintWrong)

/-- 'shredcollaw1.WirePrefix': WHATEVER THE INPUT: true; the input reads as it did. -/
def wirePrefixSpec : ChangeSpec := { name := "wirePrefix", fn := fun _ => fun
  | [d1, d2] => { results := [.lit (.bool true)], args := [d1, d2] }
  | _ => none }
def wirePrefixRow : OpenClaim := { program := "ytehklkmnbhgebaa", sum := "1bd8278df40ec45bc223371c0d37226649b60591671d6dde7baa192b7da0f0df", func := "shredcol/shredcollaw1.WirePrefix", spec := "wirePrefix", apart := false }
def WirePrefixSaid : Prop := wirePrefixRow.holds Try.pinned (OpenSpec.ofChange wirePrefixSpec)

/-- ITS FALSE NEIGHBOUR: 'it returns false'. Refute it at one input. -/
def wirePrefixWrong : ChangeSpec := { name := "wirePrefix", fn := fun _ => fun
  | [d1, d2] => { results := [.lit (.bool false)], args := [d1, d2] }
  | _ => none }
def WirePrefixWrongFalsely : Prop := wirePrefixRow.holds Try.pinned (OpenSpec.ofChange wirePrefixWrong)

/-- 'shredcollaw1.WireVarint': WHATEVER THE INPUT: true; the input reads as it did. -/
def wireVarintSpec : ChangeSpec := { name := "wireVarint", fn := fun _ => fun
  | [d] => { results := [.lit (.bool true)], args := [d] }
  | _ => none }
def wireVarintRow : OpenClaim := { program := "ytehklkmnbhgebaa", sum := "1bd8278df40ec45bc223371c0d37226649b60591671d6dde7baa192b7da0f0df", func := "shredcol/shredcollaw1.WireVarint", spec := "wireVarint", apart := false }
def WireVarintSaid : Prop := wireVarintRow.holds Try.pinned (OpenSpec.ofChange wireVarintSpec)

/-- ITS FALSE NEIGHBOUR: 'it returns false'. Refute it at one input. -/
def wireVarintWrong : ChangeSpec := { name := "wireVarint", fn := fun _ => fun
  | [d] => { results := [.lit (.bool false)], args := [d] }
  | _ => none }
def WireVarintWrongFalsely : Prop := wireVarintRow.holds Try.pinned (OpenSpec.ofChange wireVarintWrong)

/-- 'shredcollaw1.WireSum': WHATEVER THE INPUT: true; the input reads as it did. -/
def wireSumSpec : ChangeSpec := { name := "wireSum", fn := fun _ => fun
  | [d] => { results := [.lit (.bool true)], args := [d] }
  | _ => none }
def wireSumRow : OpenClaim := { program := "ytehklkmnbhgebaa", sum := "1bd8278df40ec45bc223371c0d37226649b60591671d6dde7baa192b7da0f0df", func := "shredcol/shredcollaw1.WireSum", spec := "wireSum", apart := false }
def WireSumSaid : Prop := wireSumRow.holds Try.pinned (OpenSpec.ofChange wireSumSpec)

/-- ITS FALSE NEIGHBOUR: 'it returns false'. Refute it at one input. -/
def wireSumWrong : ChangeSpec := { name := "wireSum", fn := fun _ => fun
  | [d] => { results := [.lit (.bool false)], args := [d] }
  | _ => none }
def WireSumWrongFalsely : Prop := wireSumRow.holds Try.pinned (OpenSpec.ofChange wireSumWrong)

/-- 'shredcollaw1.WireBursts': WHATEVER THE INPUT: true; the input reads as it did. -/
def wireBurstsSpec : ChangeSpec := { name := "wireBursts", fn := fun _ => fun
  | [d1, d2, d3] => { results := [.lit (.bool true)], args := [d1, d2, d3] }
  | _ => none }
def wireBurstsRow : OpenClaim := { program := "ytehklkmnbhgebaa", sum := "1bd8278df40ec45bc223371c0d37226649b60591671d6dde7baa192b7da0f0df", func := "shredcol/shredcollaw1.WireBursts", spec := "wireBursts", apart := false }
def WireBurstsSaid : Prop := wireBurstsRow.holds Try.pinned (OpenSpec.ofChange wireBurstsSpec)

/-- ITS FALSE NEIGHBOUR: 'it returns false'. Refute it at one input. -/
def wireBurstsWrong : ChangeSpec := { name := "wireBursts", fn := fun _ => fun
  | [d1, d2, d3] => { results := [.lit (.bool false)], args := [d1, d2, d3] }
  | _ => none }
def WireBurstsWrongFalsely : Prop := wireBurstsRow.holds Try.pinned (OpenSpec.ofChange wireBurstsWrong)

/- THE SECOND FORM. 'bulk': how many values and letters a reading holds, each counted each time it is reached (what is shared counts as often as it is met; a slice's spare places count too). A statement '..UptoSaid' is the law's where the arguments, and the package variables that the reading takes, are together of bulk at most 1048576: NARROWER than '..Said'. Prove '..Said' where nothing that the law and all that it calls make is longer than what came in: it says more and counts as full. Else prove '..UptoSaid'. A law counts once. -/
mutual
def uptoBulk {H : Type} : DataW H → Nat
  | .lit (.string bytes) => bytes.length + 1
  | .lit _ => 1
  | .nil => 1
  | .ptr d => uptoBulk d + 1
  | .slice elems spare => uptoBulkAll elems + uptoBulkAll spare + 1
  | .agg parts => uptoBulkAll parts + 1
  | .iface _ d => uptoBulk d + 1
  | .map entries => uptoBulkEntries entries + 1
  | .held _ => 1
def uptoBulkAll {H : Type} : List (DataW H) → Nat
  | [] => 0
  | d :: r => uptoBulk d + uptoBulkAll r
def uptoBulkEntries {H : Type} : List (Lit × DataW H) → Nat
  | [] => 0
  | x :: r => uptoBulkEntry x + uptoBulkEntries r
def uptoBulkEntry {H : Type} : Lit × DataW H → Nat
  | (.string bytes, d) => bytes.length + uptoBulk d + 1
  | (_, d) => uptoBulk d + 1
 end
def uptoSmall : (H : Type) → List (DataW H) → Bool := fun _ ds => decide (uptoBulkAll ds ≤ 1048576)
def OpenSpec.upto (s : _root_.Go.ChangeSpec) : _root_.Go.OpenSpec := { _root_.Go.OpenSpec.ofChange s with cond := some uptoSmall }

/-- 'shredcollaw1.WireUvarint', WHERE WHAT IT READS IS OF BULK AT MOST 1048576: true; the input reads as it did. -/
def wireUvarintUptoRow : OpenClaim := { program := "ytehklkmnbhgebaa", sum := "1bd8278df40ec45bc223371c0d37226649b60591671d6dde7baa192b7da0f0df", func := "shredcol/shredcollaw1.WireUvarint", spec := "wireUvarint", apart := false, narrowed := true }
def WireUvarintUptoSaid : Prop := wireUvarintUptoRow.holds Try.pinned (OpenSpec.upto wireUvarintSpec)

/-- 'shredcollaw1.WirePrefix', WHERE WHAT IT READS IS OF BULK AT MOST 1048576: true; the input reads as it did. -/
def wirePrefixUptoRow : OpenClaim := { program := "ytehklkmnbhgebaa", sum := "1bd8278df40ec45bc223371c0d37226649b60591671d6dde7baa192b7da0f0df", func := "shredcol/shredcollaw1.WirePrefix", spec := "wirePrefix", apart := false, narrowed := true }
def WirePrefixUptoSaid : Prop := wirePrefixUptoRow.holds Try.pinned (OpenSpec.upto wirePrefixSpec)

/-- 'shredcollaw1.WireVarint', WHERE WHAT IT READS IS OF BULK AT MOST 1048576: true; the input reads as it did. -/
def wireVarintUptoRow : OpenClaim := { program := "ytehklkmnbhgebaa", sum := "1bd8278df40ec45bc223371c0d37226649b60591671d6dde7baa192b7da0f0df", func := "shredcol/shredcollaw1.WireVarint", spec := "wireVarint", apart := false, narrowed := true }
def WireVarintUptoSaid : Prop := wireVarintUptoRow.holds Try.pinned (OpenSpec.upto wireVarintSpec)

/-- 'shredcollaw1.WireSum', WHERE WHAT IT READS IS OF BULK AT MOST 1048576: true; the input reads as it did. -/
def wireSumUptoRow : OpenClaim := { program := "ytehklkmnbhgebaa", sum := "1bd8278df40ec45bc223371c0d37226649b60591671d6dde7baa192b7da0f0df", func := "shredcol/shredcollaw1.WireSum", spec := "wireSum", apart := false, narrowed := true }
def WireSumUptoSaid : Prop := wireSumUptoRow.holds Try.pinned (OpenSpec.upto wireSumSpec)

/-- 'shredcollaw1.WireBursts', WHERE WHAT IT READS IS OF BULK AT MOST 1048576: true; the input reads as it did. -/
def wireBurstsUptoRow : OpenClaim := { program := "ytehklkmnbhgebaa", sum := "1bd8278df40ec45bc223371c0d37226649b60591671d6dde7baa192b7da0f0df", func := "shredcol/shredcollaw1.WireBursts", spec := "wireBursts", apart := false, narrowed := true }
def WireBurstsUptoSaid : Prop := wireBurstsUptoRow.holds Try.pinned (OpenSpec.upto wireBurstsSpec)

end Rows
end Go.Proofs.Ytehklkmnbhgebaa
