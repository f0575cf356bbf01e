/- Merged texts: EncW6, EncW7, ValArgs. -/
import Derived.Test.YtkmhmnffbgedgaaDoorMEnc
import Derived.Test.YtkmhmnffbgedgaaDoorMVal
import Derived.Test.YtkmhmnffbgedgaaDoorMBits
import Derived.Test.YtkmhmnffbgedgaaDoorMWire
import Derived.Lib.SmallJoins
import Derived.OpenShut
import Derived.ChangeArms
import Derived.Deep.Slices
import Derived.Deep.Fields
import Derived.Deep.QuietTactic
import Derived.Test.YtkmhmnffbgedgaaDoorMErr
import Derived.Test.YtkmhmnffbgedgaaDoorMRow
import Derived.BigRegion
import Derived.Test.YtkmhmnffbgedgaaDoorMCol
import Derived.Deep.DeepCutAuto
/- The walks of the document's ManyError, ValuesError. -/
namespace Go.Proofs.YtkmhmnffbgedgaaDoor
set_option linter.unusedVariables false
open Go Go.RowKit Go.ChangeShapes
end Go.Proofs.YtkmhmnffbgedgaaDoor
/- The walk of the document's PlainOf at right values. -/
namespace Go.Proofs.YtkmhmnffbgedgaaDoor
set_option linter.unusedVariables false
open Go Go.RowKit Go.ChangeShapes
end Go.Proofs.YtkmhmnffbgedgaaDoor
/- Arguments that are values, opened. -/
namespace Go.Proofs.YtkmhmnffbgedgaaDoor
set_option linter.unusedVariables false
open Go Go.RowKit Go.ChangeShapes Go.WideShapes Go.ChangeAt
def FitsV (l:List Val):Prop:=l.length ≤ maxLen ∧ ∀ x ∈ l,x.Ok
theorem cells_val:Tryd.prog.cellsOf 61 = 3:=by kernel_rfl
theorem fields3 {H:Type} {enc:TypeId × Value → H} {P:Program} {W:World} {base fuel:Nat} {sp:Nat → Bool} {held:Bool} {t:TypeId} {f0 f1 f2:Field} {cs:List Value} {z:DataW H × List MemPlace}
  (hs:P.underlying t = some (.struct #[f0,f1,f2])) (hone:Deep.oneCellFields P #[f0,f1,f2] = true) (hC:P.cellsOf t = 3) (h:DataW.trod enc P W base sp held fuel t cs = some z) :
  ∃ c0 c1 c2 y0 y1 y2 n,cs = [c0,c1,c2] ∧ DataW.trod enc P W base sp held n f0.type [c0] = some y0 ∧ DataW.trod enc P W base sp held n f1.type [c1] = some y1 ∧ DataW.trod enc P W base sp held n f2.type [c2] = some y2:=by
 obtain ⟨xs,n,rfl,_,hlen,hxl,hf⟩:=DataW.trod_struct hs h
 rw [hC] at hlen
 match cs,hlen with
 | [c0,c1,c2],_ =>
  match xs,hxl with
  | [y0,y1,y2],_ =>
   obtain ⟨o0,k0⟩:=Deep.hone_of hone 0 f0 rfl
   obtain ⟨o1,k1⟩:=Deep.hone_of hone 1 f1 rfl
   obtain ⟨o2,k2⟩:=Deep.hone_of hone 2 f2 rfl
   exact ⟨c0,c1,c2,y0,y1,y2,n,rfl,by simpa [o0,k0] using hf 0 f0 rfl,by simpa [o1,k1] using hf 1 f1 rfl,by simpa [o2,k2] using hf 2 f2 rfl⟩
set_option maxRecDepth 100000 in
theorem val_fields {H:Type} {enc:TypeId × Value → H} {W:World} {fuel:Nat} {cs:List Value} {z:DataW H × List MemPlace} (h:DataW.trod enc Tryd.prog W 0 (fun _=>true) true fuel 61 cs = some z) :
  ∃ x:Val,cs = valCells x ∧ x.Ok:=by
 obtain ⟨c0,c1,c2,y0,y1,y2,n,rfl,h0,h1,h2⟩:=fields3 Tryd.underlying61 (by kernel_rfl) cells_val h
 obtain ⟨a,ha,_,wa⟩:=DataW.trod_int Tryd.underlying3 h0
 obtain ⟨b,hb,_,wb⟩:=DataW.trod_int Tryd.underlying2 h1
 obtain ⟨s,hs,_,ws⟩:=DataW.trod_string Tryd.underlying9 h2
 simp only [List.cons.injEq,and_true] at ha hb hs
 subst ha hb hs
 have ba:=bounds_i64 wa
 have bb:=bounds_i64 wb
 exact ⟨⟨a,b,s⟩,rfl,⟨ba.1,by show a < _;omega,bb.1,by show b < _;omega,ws⟩⟩
end Go.Proofs.YtkmhmnffbgedgaaDoor
/- Merged texts: Stat1, Stat2. -/
/- What is known of values, in plain Lean; arguments of that kind, opened; the equality of two. -/
namespace Go.Proofs.YtkmhmnffbgedgaaDoor
set_option linter.unusedVariables false
open Go Go.RowKit Go.ChangeShapes Go.WideShapes Go.ChangeAt
def zv:Val:=⟨0,0,⟨#[]⟩⟩
structure St where
 e:Int
 n:Int
 has:Bool
 lo:Val
 hi:Val
def St.none:St:=⟨0,0,false,zv,zv⟩
structure St.Ok (s:St):Prop where
 e0:-9223372036854775808 ≤ s.e
 e1:s.e < 9223372036854775808
 n0:-9223372036854775808 ≤ s.n
 n1:s.n < 9223372036854775808
 lo:s.lo.Ok
 hi:s.hi.Ok
theorem field_of {H:Type} {enc:TypeId × Value → H} {P:Program} {W:World} {base n:Nat} {sp:Nat → Bool} {held:Bool} {fs:Array Field} {cs:List Value} {xs:List (DataW H × List MemPlace)}
  (hq:∀ (i:Nat) (f:Field),fs[i]? = some f → DataW.trod enc P W base sp held n f.type ((cs.drop f.offset).take (P.cellsOf f.type)) = xs[i]?)
  (i:Nat) (f:Field) (hf:fs[i]? = some f) (T o k:Nat) (hT:f.type = T) (ho:f.offset = o) (hk:P.cellsOf T = k):DataW.trod enc P W base sp held n T ((cs.drop o).take k) = xs[i]?:=by
 subst hT ho hk
 exact hq i f hf
theorem cells_int1:Tryd.prog.cellsOf 3 = 1:=by kernel_rfl
end Go.Proofs.YtkmhmnffbgedgaaDoor
/- The walks of the statement's statsOf and of stats.Merge. -/
namespace Go.Proofs.YtkmhmnffbgedgaaDoor
set_option linter.unusedVariables false
open Go Go.RowKit Go.ChangeShapes
end Go.Proofs.YtkmhmnffbgedgaaDoor
/- Merged texts: Known, StOf, Two. -/
/- What is known of a column: plain Lean, and the walk of stats.Known. -/
namespace Go.Proofs.YtkmhmnffbgedgaaDoor
set_option linter.unusedVariables false
open Go Go.RowKit Go.ChangeShapes
end Go.Proofs.YtkmhmnffbgedgaaDoor
/- The walk of stats.Of; the closed fact two. -/
namespace Go.Proofs.YtkmhmnffbgedgaaDoor
set_option linter.unusedVariables false
open Go Go.RowKit Go.ChangeShapes
end Go.Proofs.YtkmhmnffbgedgaaDoor
/- The closed fact two of the statements of chapter 9. -/
namespace Go.Proofs.YtkmhmnffbgedgaaDoor
set_option linter.unusedVariables false
open Go Go.RowKit Go.ChangeShapes
end Go.Proofs.YtkmhmnffbgedgaaDoor
