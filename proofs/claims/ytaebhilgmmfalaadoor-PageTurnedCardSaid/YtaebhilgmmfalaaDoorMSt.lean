/- Merged texts: Stat1, Stat2. -/
import Derived.Test.YtaebhilgmmfalaaDoorMRef
import Derived.Test.YtaebhilgmmfalaaDoorMEnc
import Derived.Test.YtaebhilgmmfalaaDoorMErr
import Derived.Test.YtaebhilgmmfalaaDoorMRow
import Derived.BigRegion

/- What is known of values, in plain Lean; arguments of that kind, opened; the equality of two. -/
namespace Go.Proofs.YtaebhilgmmfalaaDoor
set_option linter.unusedVariables false
open Go Go.RowKit Go.ChangeShapes Go.WideShapes Go.ChangeAt

/-- no value -/
def zv : Val := ⟨0, 0, ⟨#[]⟩⟩
/-- stats -/
structure St where
  e : Int
  n : Int
  has : Bool
  lo : Val
  hi : Val
def St.none : St := ⟨0, 0, false, zv, zv⟩
def stA (s : St) : Array Value := #[.int .i64 s.e, .int .i64 s.n, .bool s.has, .int .i64 s.lo.k, .int .i64 s.lo.n, .string s.lo.s, .int .i64 s.hi.k, .int .i64 s.hi.n, .string s.hi.s]
theorem stA_one (s : St) : (stA s).all (·.oneCell') = true := by simp [stA, Value.oneCell']
structure St.Ok (s : St) : Prop where
  e0 : -9223372036854775808 ≤ s.e
  e1 : s.e < 9223372036854775808
  n0 : -9223372036854775808 ≤ s.n
  n1 : s.n < 9223372036854775808
  lo : s.lo.Ok
  hi : s.hi.Ok

/-- a struct's field, read -/
theorem field_of {H : Type} {enc : TypeId × Value → H} {P : Program} {W : World} {base n : Nat} {sp : Nat → Bool} {held : Bool} {fs : Array Field} {cs : List Value} {xs : List (DataW H × List MemPlace)}
    (hq : ∀ (i : Nat) (f : Field), fs[i]? = some f → DataW.trod enc P W base sp held n f.type ((cs.drop f.offset).take (P.cellsOf f.type)) = xs[i]?)
    (i : Nat) (f : Field) (hf : fs[i]? = some f) (T o k : Nat) (hT : f.type = T) (ho : f.offset = o) (hk : P.cellsOf T = k) : DataW.trod enc P W base sp held n T ((cs.drop o).take k) = xs[i]? := by
  subst hT ho hk
  exact hq i f hf
theorem cells_int1 : Tryd.prog.cellsOf 3 = 1 := by kernel_rfl
theorem cells_bool1 : Tryd.prog.cellsOf 4 = 1 := by kernel_rfl
/-- the same stats? -/
def stEq (a b : St) : Bool := decide (a.e = b.e) && (decide (a.n = b.n) && ((a.has == b.has) && (valEq a.lo b.lo && valEq a.hi b.hi)))
theorem stEq_self (a : St) : stEq a a = true := by
  unfold stEq valEq
  simp

theorem st_ifs (x y : St) {α : Type} (p q : α) : (if x.e = y.e then if x.n = y.n then if x.has = y.has then if x.lo.k = y.lo.k then if x.lo.n = y.lo.n then if x.lo.s.toList = y.lo.s.toList then if x.hi.k = y.hi.k then if x.hi.n = y.hi.n then if x.hi.s.toList = y.hi.s.toList then p else q else q else q else q else q else q else q else q else q) = if stEq x y = true then p else q := by
  rw [val_ifs x.hi y.hi, val_ifs x.lo y.lo]
  unfold stEq
  by_cases h1 : x.e = y.e <;> by_cases h2 : x.n = y.n <;> by_cases h3 : x.has = y.has <;> cases valEq x.lo y.lo <;> cases valEq x.hi y.hi <;> simp [h1, h2, h3]
theorem eql_st (x y : St) (w : World) : (binOp .eql 46 (.agg (stA x)) (.agg (stA y))).run Tryd.prog w = .ok (.bool (stEq x y)) w := by
  have hm : Tryd.prog.stoodInHeld 46 = false := by kernel_rfl
  unfold stA
  simp [go_sem]
  rw [st_ifs]
  cases stEq x y <;> rfl
theorem neq_st (x y : St) (w : World) : (binOp .neq 46 (.agg (stA x)) (.agg (stA y))).run Tryd.prog w = .ok (.bool (!stEq x y)) w := by
  have hm : Tryd.prog.stoodInHeld 46 = false := by kernel_rfl
  unfold stA
  simp [go_sem]
  rw [st_ifs]
  cases stEq x y <;> rfl

/-- two together; none: the kinds part -/
def mergeSt (a b : St) : Option St :=
  if a.has = true ∧ b.has = true ∧ a.lo.k ≠ b.lo.k then .none
  else some ⟨a.e + b.e, a.n + b.n, a.has || b.has,
    if a.has then (if b.has && b.lo.less a.lo then b.lo else a.lo) else if b.has then b.lo else zv,
    if a.has then (if b.has && a.hi.less b.hi then b.hi else a.hi) else if b.has then b.hi else zv⟩
end Go.Proofs.YtaebhilgmmfalaaDoor

/- The walks of the statement's statsOf and of stats.Merge. -/
namespace Go.Proofs.YtaebhilgmmfalaaDoor
set_option linter.unusedVariables false
open Go Go.RowKit Go.ChangeShapes

theorem less_at (x y : Val) (hx : x.Ok) (hy : y.Ok) (t : Bool) (h : x.less y = t) (w : World) :
    Calls Tryd.prog 42 #[.agg #[.int .i64 x.k, .int .i64 x.n, .string x.s], .agg #[.int .i64 y.k, .int .i64 y.n, .string y.s]] w fun e w' => e = .returned (.bool t) ∧ Below w.heap.size w w' := by
  subst h
  exact less_any x y hx hy w
end Go.Proofs.YtaebhilgmmfalaaDoor
