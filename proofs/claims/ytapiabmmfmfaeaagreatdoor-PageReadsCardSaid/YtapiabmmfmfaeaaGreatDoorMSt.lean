/- Merged texts: Stat1, Stat2. -/
import Derived.Test.YtapiabmmfmfaeaaGreatDoorMRef
import Derived.Test.YtapiabmmfmfaeaaGreatDoorMEnc
import Derived.Test.YtapiabmmfmfaeaaGreatDoorMErr
import Derived.Test.YtapiabmmfmfaeaaGreatDoorMRow
import Derived.BigRegion
/- What is known of values, in plain Lean; arguments of that kind, opened; the equality of two. -/
namespace Go.Proofs.YtapiabmmfmfaeaaGreatDoor
set_option maxHeartbeats 1000000
set_option linter.unusedVariables false
open Go Go.RowKit Go.ChangeShapes Go.WideShapes Go.ChangeAt
def zv:Val:=⟨0,0,⟨#[]⟩⟩
structure St where
 e:Int
 n:Int
 has:Bool
 lo:Val
 hi:Val
def St.none:St:=⟨0,0,false,zv,zv⟩
def stA (s:St):Array Value:=#[.int .i64 s.e,.int .i64 s.n,.bool s.has,.int .i64 s.lo.k,.int .i64 s.lo.n,.string s.lo.s,.int .i64 s.hi.k,.int .i64 s.hi.n,.string s.hi.s]
theorem stA_one (s:St):(stA s).all (·.oneCell') = true:=by simp [stA,Value.oneCell']
structure St.Ok (s:St):Prop where
 e0:-9223372036854775808 ≤ s.e
 e1:s.e < 9223372036854775808
 n0:-9223372036854775808 ≤ s.n
 n1:s.n < 9223372036854775808
 lo:s.lo.Ok
 hi:s.hi.Ok
theorem field_of {H:Type} {enc:TypeId × Value → H} {P:Program} {W:World} {base n:Nat} {sp:Nat → Bool} {held:Bool} {fs:Array Field} {cs:List Value} {xs:List (DataW H × List MemPlace)}
  (hq:∀ (i:Nat) (f:Field),fs[i]? = some f → DataW.trod enc P W base sp held n f.type ((cs.drop f.offset).take (P.cellsOf f.type)) = xs[i]?)
  (i:Nat) (f:Field) (hf:fs[i]? = some f) (T o k:Nat) (hT:f.type = T) (ho:f.offset = o) (hk:P.cellsOf T = k):DataW.trod enc P W base sp held n T ((cs.drop o).take k) = xs[i]?:=by
 subst hT ho hk
 exact hq i f hf
theorem cells_int1:Tryz.prog.cellsOf 3 = 1:=by kernel_rfl
def stEq (a b:St):Bool:=decide (a.e = b.e) && (decide (a.n = b.n) && ((a.has == b.has) && (valEq a.lo b.lo && valEq a.hi b.hi)))
theorem stEq_self (a:St):stEq a a = true:=by
 unfold stEq valEq
 simp
theorem st_ifs (x y:St) {α:Type} (p q:α):(if x.e = y.e then if x.n = y.n then if x.has = y.has then if x.lo.k = y.lo.k then if x.lo.n = y.lo.n then if x.lo.s.toList = y.lo.s.toList then if x.hi.k = y.hi.k then if x.hi.n = y.hi.n then if x.hi.s.toList = y.hi.s.toList then p else q else q else q else q else q else q else q else q else q) = if stEq x y = true then p else q:=by
 rw [val_ifs x.hi y.hi,val_ifs x.lo y.lo]
 unfold stEq
 by_cases h1:x.e = y.e <;> by_cases h2:x.n = y.n <;> by_cases h3:x.has = y.has <;> cases valEq x.lo y.lo <;> cases valEq x.hi y.hi <;> simp [h1,h2,h3]
theorem eql_st (x y:St) (w:World):(binOp .eql 43 (.agg (stA x)) (.agg (stA y))).run Tryz.prog w = .ok (.bool (stEq x y)) w:=by
 have hm:Tryz.prog.stoodInHeld 43 = false:=by kernel_rfl
 unfold stA
 simp [go_sem]
 rw [st_ifs]
 cases stEq x y <;> rfl
theorem neq_st (x y:St) (w:World):(binOp .neq 43 (.agg (stA x)) (.agg (stA y))).run Tryz.prog w = .ok (.bool (!stEq x y)) w:=by
 have hm:Tryz.prog.stoodInHeld 43 = false:=by kernel_rfl
 unfold stA
 simp [go_sem]
 rw [st_ifs]
 cases stEq x y <;> rfl
end Go.Proofs.YtapiabmmfmfaeaaGreatDoor
/- The walks of the statement's statsOf and of stats.Merge. -/
namespace Go.Proofs.YtapiabmmfmfaeaaGreatDoor
set_option maxHeartbeats 1000000
set_option linter.unusedVariables false
open Go Go.RowKit Go.ChangeShapes
set_option maxRecDepth 100000 in
theorem statsOf_any (a:St) (w:World) :
  Calls Tryz.prog 13 #[.agg (stA a)] w fun e w'=>e = .returned (.agg (stA a)) ∧ Below w.heap.size w w':=by
 unfold stA
 go_enter Tryz.func13,Tryz.ntmps13
 go_wp2_with fail
 exact bodyPost_ret (v:=.agg #[.int .i64 a.e,.int .i64 a.n,.bool a.has,.int .i64 a.lo.k,.int .i64 a.lo.n,.string a.lo.s,.int .i64 a.hi.k,.int .i64 a.hi.n,.string a.hi.s]) (by simp [results,Tryz.results13,go_sem]) rfl ⟨rfl,((Below.refl _ _).alloc (Nat.le_refl _) _).alloc (by simp) _⟩
theorem less_at (x y:Val) (hx:x.Ok) (hy:y.Ok) (t:Bool) (h:x.less y = t) (w:World) :
  Calls Tryz.prog 43 #[.agg #[.int .i64 x.k,.int .i64 x.n,.string x.s],.agg #[.int .i64 y.k,.int .i64 y.n,.string y.s]] w fun e w'=>e = .returned (.bool t) ∧ Below w.heap.size w w':=by
 subst h
 exact less_any x y hx hy w
theorem lessOf_at (x y:Val) (hx:x.Ok) (hy:y.Ok) (t:Bool) (h:x.less y = t) (w:World) :
  Calls Tryz.prog 56 #[.agg #[.int .i64 x.k,.int .i64 x.n,.string x.s],.agg #[.int .i64 y.k,.int .i64 y.n,.string y.s]] w fun e w'=>e = .returned (.bool t) ∧ Below w.heap.size w w':=by
 subst h
 exact lessOf_any x y hx hy w
end Go.Proofs.YtapiabmmfmfaeaaGreatDoor
