/- Merged texts: EncW6, EncW7, ValArgs. -/
import Derived.Test.YtdcgihplkangeaaGreatDoorMEnc
import Derived.Test.YtdcgihplkangeaaGreatDoorMVal
import Derived.Test.YtdcgihplkangeaaGreatDoorMBits
import Derived.Test.YtdcgihplkangeaaGreatDoorMWire
import Derived.Lib.SmallJoins
import Derived.OpenShut
import Derived.ChangeArms
import Derived.Deep.Slices
import Derived.Deep.Fields
import Derived.Deep.QuietTactic
import Derived.Test.YtdcgihplkangeaaGreatDoorMErr
import Derived.Test.YtdcgihplkangeaaGreatDoorMRow
import Derived.BigRegion
import Derived.Test.YtdcgihplkangeaaGreatDoorMCol
import Derived.Deep.DeepCutAuto
import Derived.WideMake
import Derived.Deep.RegionHeld3
import Derived.BigQuiet
import Derived.SliceStrings
import Derived.Test.YtdcgihplkangeaaGreatDoorMPlain
import Derived.WalkKit
import Derived.Lib.Builder
import Derived.Lib.AppendZerosOnto
import Derived.IntWalk
import Derived.DeepKeys4
import Derived.Maps.OwnOps
import Derived.Maps.OwnSet
import Derived.Maps.Views
import Derived.Lib.BitFns
import Derived.Deep.RegionWith
import Derived.Deep.AppendLies
/- The walks of the document's ManyError, ValuesError. -/
namespace Go.Proofs.YtdcgihplkangeaaGreatDoor
set_option linter.unusedVariables false
open Go Go.RowKit Go.ChangeShapes
end Go.Proofs.YtdcgihplkangeaaGreatDoor
/- The walk of the document's PlainOf at right values. -/
namespace Go.Proofs.YtdcgihplkangeaaGreatDoor
set_option linter.unusedVariables false
open Go Go.RowKit Go.ChangeShapes
end Go.Proofs.YtdcgihplkangeaaGreatDoor
/- Arguments that are values, opened. -/
namespace Go.Proofs.YtdcgihplkangeaaGreatDoor
set_option linter.unusedVariables false
open Go Go.RowKit Go.ChangeShapes Go.WideShapes Go.ChangeAt
def FitsV (l:List Val):Prop:=l.length ≤ maxLen ∧ ∀ x ∈ l,x.Ok
theorem cells_val:Tryz.prog.cellsOf 62 = 3:=by kernel_rfl
theorem fields3 {H:Type} {enc:TypeId × Value → H} {P:Program} {W:World} {base fuel:Nat} {sp:Nat → Bool} {held:Bool} {t:TypeId} {f0 f1 f2:Field} {cs:List Value} {z:DataW H × List MemPlace}
  (hs:P.underlying t = some (.struct #[f0,f1,f2])) (hone:Deep.oneCellFields P #[f0,f1,f2] = true) (hC:P.cellsOf t = 3) (h:DataW.trod enc P W base sp held fuel t cs = some z) :
  ∃ c0 c1 c2 y0 y1 y2 n,cs = [c0,c1,c2] ∧ DataW.trod enc P W base sp held n f0.type [c0] = some y0 ∧ DataW.trod enc P W base sp held n f1.type [c1] = some y1 ∧ DataW.trod enc P W base sp held n f2.type [c2] = some y2:=by
 obtain ⟨xs,n,rfl,_,hlen,hxl,hf⟩:=DataW.trod_struct hs h
 rw [hC] at hlen
 match cs,hlen with
 | [c0,c1,c2],_ =>
  match xs,hxl with
  | [y0,y1,y2],_ =>
   obtain ⟨o0,k0⟩:=Deep.hone_of hone 0 f0 rfl
   obtain ⟨o1,k1⟩:=Deep.hone_of hone 1 f1 rfl
   obtain ⟨o2,k2⟩:=Deep.hone_of hone 2 f2 rfl
   exact ⟨c0,c1,c2,y0,y1,y2,n,rfl,by simpa [o0,k0] using hf 0 f0 rfl,by simpa [o1,k1] using hf 1 f1 rfl,by simpa [o2,k2] using hf 2 f2 rfl⟩
set_option maxRecDepth 100000 in
theorem val_fields {H:Type} {enc:TypeId × Value → H} {W:World} {fuel:Nat} {cs:List Value} {z:DataW H × List MemPlace} (h:DataW.trod enc Tryz.prog W 0 (fun _=>true) true fuel 62 cs = some z) :
  ∃ x:Val,cs = valCells x ∧ x.Ok:=by
 obtain ⟨c0,c1,c2,y0,y1,y2,n,rfl,h0,h1,h2⟩:=fields3 Tryz.underlying62 (by kernel_rfl) cells_val h
 obtain ⟨a,ha,_,wa⟩:=DataW.trod_int Tryz.underlying3 h0
 obtain ⟨b,hb,_,wb⟩:=DataW.trod_int Tryz.underlying2 h1
 obtain ⟨s,hs,_,ws⟩:=DataW.trod_string Tryz.underlying9 h2
 simp only [List.cons.injEq,and_true] at ha hb hs
 subst ha hb hs
 have ba:=bounds_i64 wa
 have bb:=bounds_i64 wb
 exact ⟨⟨a,b,s⟩,rfl,⟨ba.1,by show a < _;omega,bb.1,by show b < _;omega,ws⟩⟩
end Go.Proofs.YtdcgihplkangeaaGreatDoor
/- Merged texts: Stat1, Stat2. -/
/- What is known of values, in plain Lean; arguments of that kind, opened; the equality of two. -/
namespace Go.Proofs.YtdcgihplkangeaaGreatDoor
set_option linter.unusedVariables false
open Go Go.RowKit Go.ChangeShapes Go.WideShapes Go.ChangeAt
def zv:Val:=⟨0,0,⟨#[]⟩⟩
structure St where
 e:Int
 n:Int
 has:Bool
 lo:Val
 hi:Val
def St.none:St:=⟨0,0,false,zv,zv⟩
structure St.Ok (s:St):Prop where
 e0:-9223372036854775808 ≤ s.e
 e1:s.e < 9223372036854775808
 n0:-9223372036854775808 ≤ s.n
 n1:s.n < 9223372036854775808
 lo:s.lo.Ok
 hi:s.hi.Ok
theorem field_of {H:Type} {enc:TypeId × Value → H} {P:Program} {W:World} {base n:Nat} {sp:Nat → Bool} {held:Bool} {fs:Array Field} {cs:List Value} {xs:List (DataW H × List MemPlace)}
  (hq:∀ (i:Nat) (f:Field),fs[i]? = some f → DataW.trod enc P W base sp held n f.type ((cs.drop f.offset).take (P.cellsOf f.type)) = xs[i]?)
  (i:Nat) (f:Field) (hf:fs[i]? = some f) (T o k:Nat) (hT:f.type = T) (ho:f.offset = o) (hk:P.cellsOf T = k):DataW.trod enc P W base sp held n T ((cs.drop o).take k) = xs[i]?:=by
 subst hT ho hk
 exact hq i f hf
theorem cells_int1:Tryz.prog.cellsOf 3 = 1:=by kernel_rfl
end Go.Proofs.YtdcgihplkangeaaGreatDoor
/- The walks of the statement's statsOf and of stats.Merge. -/
namespace Go.Proofs.YtdcgihplkangeaaGreatDoor
set_option linter.unusedVariables false
open Go Go.RowKit Go.ChangeShapes
end Go.Proofs.YtdcgihplkangeaaGreatDoor
/- Merged texts: Known, StOf, Two. -/
/- What is known of a column: plain Lean, and the walk of stats.Known. -/
namespace Go.Proofs.YtdcgihplkangeaaGreatDoor
set_option linter.unusedVariables false
open Go Go.RowKit Go.ChangeShapes
end Go.Proofs.YtdcgihplkangeaaGreatDoor
/- The walk of stats.Of; the closed fact two. -/
namespace Go.Proofs.YtdcgihplkangeaaGreatDoor
set_option linter.unusedVariables false
open Go Go.RowKit Go.ChangeShapes
end Go.Proofs.YtdcgihplkangeaaGreatDoor
/- The closed fact two of the statements of chapter 9. -/
namespace Go.Proofs.YtdcgihplkangeaaGreatDoor
set_option linter.unusedVariables false
open Go Go.RowKit Go.ChangeShapes
theorem isInts_row (l:List Int) (w:World) (b:Nat) (t:TypeId) (h:w.heap[b]? = some (.cells (l.map fun x=>Value.int .i64 x).toArray t (0,0))):IsInts w (.slice (some ⟨b,0,none⟩) l.length l.length) l:=by
 refine .inr ⟨b,0,l.length,rfl,row_lt h,fun j x hj=>?_⟩
 rw [rowc h,Nat.zero_add]
 simp [hj]
theorem isVals_row (l:List Val) (w:World) (b:Nat) (t:TypeId) (h:w.heap[b]? = some (.cells (l.flatMap valCells).toArray t (0,0))):IsVals w (.slice (some ⟨b,0,none⟩) l.length l.length) l:=by
 refine .inr ⟨b,0,l.length,rfl,row_lt h,fun j x hj=>?_⟩
 obtain ⟨h1,h2,h3⟩:=flat_at l j x hj
 refine ⟨?_,?_,?_⟩
 ·rw [rowc h,Nat.zero_add];simpa using h1
 ·rw [rowc h,Nat.zero_add];simpa using h2
 ·rw [rowc h,Nat.zero_add];simpa using h3
end Go.Proofs.YtdcgihplkangeaaGreatDoor
/- Merged texts: How1, How2, How3, How4, How5. -/
/- The walk of stats.table: the map of the six ways to stand. -/
namespace Go.Proofs.YtdcgihplkangeaaGreatDoor
set_option linter.unusedVariables false
open Go Go.RowKit Go.ChangeShapes
end Go.Proofs.YtdcgihplkangeaaGreatDoor
/- The walk of stats.How. -/
namespace Go.Proofs.YtdcgihplkangeaaGreatDoor
set_option linter.unusedVariables false
open Go Go.RowKit Go.ChangeShapes
end Go.Proofs.YtdcgihplkangeaaGreatDoor
/- The walk of stats.How at an unknown way and at the six known ones. -/
namespace Go.Proofs.YtdcgihplkangeaaGreatDoor
set_option linter.unusedVariables false
open Go Go.RowKit Go.ChangeShapes
end Go.Proofs.YtdcgihplkangeaaGreatDoor
/- The walk of the document's StandsOf. -/
namespace Go.Proofs.YtdcgihplkangeaaGreatDoor
set_option linter.unusedVariables false
open Go Go.RowKit Go.ChangeShapes
end Go.Proofs.YtdcgihplkangeaaGreatDoor
/- How and StandsOf at whatever way. -/
namespace Go.Proofs.YtdcgihplkangeaaGreatDoor
set_option linter.unusedVariables false
open Go Go.RowKit Go.ChangeShapes
end Go.Proofs.YtdcgihplkangeaaGreatDoor
/- Merged texts: May1, May2, May3. -/
/- The walk of the document's MayOf. -/
namespace Go.Proofs.YtdcgihplkangeaaGreatDoor
set_option linter.unusedVariables false
open Go Go.RowKit Go.ChangeShapes
end Go.Proofs.YtdcgihplkangeaaGreatDoor
/- The walk of stats.May. -/
namespace Go.Proofs.YtdcgihplkangeaaGreatDoor
set_option linter.unusedVariables false
open Go Go.RowKit Go.ChangeShapes
end Go.Proofs.YtdcgihplkangeaaGreatDoor
/- stats.May where all is right. -/
namespace Go.Proofs.YtdcgihplkangeaaGreatDoor
set_option linter.unusedVariables false
open Go Go.RowKit Go.ChangeShapes
end Go.Proofs.YtdcgihplkangeaaGreatDoor
/- Merged texts: Pre1, PreW1, StrArgs. -/
/- Chapter 3 in plain Lean: texts by what they have in common; slices of texts in memory. -/
namespace Go.Proofs.YtdcgihplkangeaaGreatDoor
set_option linter.unusedVariables false
open Go Go.RowKit Go.ChangeShapes
def IsStrs (w:World) (v:Value) (l:List ByteArray):Prop :=
 (l = [] ∧ ∃ ad cap,v = .slice ad 0 cap) ∨ (∃ b off cap,v = .slice (some ⟨b,off,none⟩) l.length cap ∧ b < w.heap.size ∧ ∀ (j:Nat) (x:ByteArray),l[j]? = some x → w.cell? ⟨b,off + j,none⟩ = some (.string x))
theorem IsStrs.below {w w':World} {v:Value} {l:List ByteArray} {B:Nat} (h:IsStrs w v l) (hb:Below B w w') (hB:w.heap.size ≤ B):IsStrs w' v l:=by
 rcases h with h | ⟨b,off,cap,rfl,hlt,hc⟩
 ·exact .inl h
 ·exact .inr ⟨b,off,cap,rfl,by have:=hb.size;omega,fun j x hj=>(hb.cell (p:=⟨b,off + j,none⟩) (by show b < B;omega)).trans (hc j x hj)⟩
theorem IsStrs.form {w:World} {v:Value} {l:List ByteArray} (h:IsStrs w v l):∃ ad cap,v = .slice ad l.length cap:=by
 rcases h with ⟨rfl,h⟩ | ⟨b,off,cap,rfl,_⟩
 ·exact h
 ·exact ⟨_,_,rfl⟩
theorem IsStrs.at {w:World} {ad:Option Addr} {n cap:Nat} {l:List ByteArray} (h:IsStrs w (.slice ad n cap) l) (hl:0 < l.length) :
  ∃ b off,ad = some ⟨b,off,none⟩ ∧ n = l.length ∧ b < w.heap.size ∧ ∀ (j:Nat) (x:ByteArray),l[j]? = some x → w.cell? ⟨b,off + j,none⟩ = some (.string x):=by
 rcases h with ⟨rfl,_⟩ | ⟨b,off,cap',he,hlt,hc⟩
 ·simp at hl
 ·injection he with e1 e2 e3
  exact ⟨b,off,e1,e2,hlt,hc⟩
def strV (s:ByteArray):Value:=.string s
theorem IsStrs.of_own {w:World} {B:Nat} {e:TypeId} {v:Value} {l:List ByteArray} (h:w.ownsRow B e 1 v l.length (l.map strV)):IsStrs w v l:=by
 rcases h.2 with ⟨rfl,h0⟩ | ⟨g,cap,cur,rfl,_,hg,_,_,_,_⟩
 ·exact .inl ⟨List.eq_nil_of_length_eq_zero h0,none,0,rfl⟩
 ·refine .inr ⟨g,0,cap,rfl,(Array.getElem?_eq_some_iff.1 hg).1,fun j x hj=>?_⟩
  have hlt:j < l.length:=(List.getElem?_eq_some_iff.1 hj).1
  have:=h.cellAt j (by omega)
  rw [Nat.zero_add,this]
  simp [hj,strV]
end Go.Proofs.YtdcgihplkangeaaGreatDoor
/- The walks of enc.Prefix and the document's PrefixOf. -/
namespace Go.Proofs.YtdcgihplkangeaaGreatDoor
set_option linter.unusedVariables false
open Go Go.RowKit Go.ChangeShapes
end Go.Proofs.YtdcgihplkangeaaGreatDoor
/- Arguments that are texts, opened. -/
namespace Go.Proofs.YtdcgihplkangeaaGreatDoor
set_option linter.unusedVariables false
open Go Go.RowKit Go.ChangeShapes Go.WideShapes Go.ChangeAt
end Go.Proofs.YtdcgihplkangeaaGreatDoor
/- Merged texts: RunsW1, Zeros, RunsW2. -/
/- The walks of bitrun.number and of the closure in bitrun.Runs. -/
namespace Go.Proofs.YtdcgihplkangeaaGreatDoor
set_option linter.unusedVariables false
open Go Go.RowKit Go.ChangeShapes
def OpenAt (B o:Nat) (l:List Nat) (w:World):Prop:=B ≤ o ∧ ∃ v,w.heap[o]? = some (.cells #[v] 22 (0,0)) ∧ w.ownsRow B 3 1 v l.length (l.map natV) ∧ v.ownBlock ≠ some o
theorem OpenAt.kept {B o:Nat} {l:List Nat} {w w':World} {e:TypeId} {b:Option Nat} (h:OpenAt B o l w) (hk:Lib.OthersKept e b w w') (he:e ≠ 22) (he2:e ≠ 3)
  (hob:∀ k cs fz T,w.heap[k]? = some (.cells cs T fz) → (T = 22 ∨ T = 3) → some k ≠ b):OpenAt B o l w':=by
 obtain ⟨hB,v,hbk,hown,hne⟩:=h
 refine ⟨hB,v,hk _ _ hbk (hob _ _ _ _ hbk (.inl rfl)) (fun c fz hc=>he (by injection hc with _ h2 _;exact h2.symm)),⟨hown.1,?_⟩,hne⟩
 rcases hown.2 with h1 | ⟨g,cap,cur,hv,h1,h2,h3⟩
 ·exact .inl h1
 ·exact .inr ⟨g,cap,cur,hv,h1,hk _ _ h2 (hob _ _ _ _ h2 (.inr rfl)) (fun c fz hc=>he2 (by injection hc with _ h2 _;exact h2.symm)),h3⟩
theorem OpenAt.below {B o:Nat} {l:List Nat} {w w':World} (h:OpenAt B o l w) (hb:Below w.heap.size w w'):OpenAt B o l w' :=
 h.kept (e:=5) (b:=none) (others_of_below hb) (by decide) (by decide) (fun _ _ _ _ _ _=>by simp)
end Go.Proofs.YtdcgihplkangeaaGreatDoor
/- append(s, make([]T, k)...) on the call's own slice: a law of no program. -/
namespace Go.Proofs.YtdcgihplkangeaaGreatDoor
set_option linter.unusedVariables false
open Go Go.RowKit
end Go.Proofs.YtdcgihplkangeaaGreatDoor
/- The walk of bitrun.Runs. -/
namespace Go.Proofs.YtdcgihplkangeaaGreatDoor
set_option linter.unusedVariables false
open Go Go.RowKit Go.ChangeShapes
def Capped (v:Value):Prop:=∀ ad n cap,v = .slice ad n cap → n ≤ cap
theorem IsNums.sub {K:IntKind} {w:World} {b off:Nat} {l:List Int} (hlt:b < w.heap.size) (hc:∀ j x,l[j]? = some x → w.cell? ⟨b,off + j,none⟩ = some (.int K x)) (j n' cap':Nat) (hn:n' = l.length - j) :
  IsNums K w (.slice (some ⟨b,off + j,none⟩) n' cap') (l.drop j):=by
 by_cases h:l.drop j = []
 ·have:=congrArg List.length h
  rw [List.length_drop,List.length_nil] at this
  exact .inl ⟨h,_,_,by rw [hn,this]⟩
 ·refine .inr ⟨b,off + j,cap',by rw [List.length_drop,hn],hlt,fun i x hi=>?_⟩
  rw [List.getElem?_drop] at hi
  have:=hc (j + i) x hi
  rwa [← Nat.add_assoc] at this
theorem Capped.sub {ad:Option Addr} {n cap j:Nat} (h:n ≤ cap):Capped (.slice ad (n - j) (cap - j)):=by
 intro a' n' c' he
 injection he with _ h2 h3
 omega
end Go.Proofs.YtdcgihplkangeaaGreatDoor
/- Merged texts: ReadsW1. -/
/- The walk of bitrun.ReadRuns. -/
namespace Go.Proofs.YtdcgihplkangeaaGreatDoor
set_option linter.unusedVariables false
open Go Go.RowKit Go.ChangeShapes
end Go.Proofs.YtdcgihplkangeaaGreatDoor
/- Merged texts: RunsOf. -/
/- The walk of the document's RunsOf. -/
namespace Go.Proofs.YtdcgihplkangeaaGreatDoor
set_option linter.unusedVariables false
open Go Go.RowKit Go.ChangeShapes
end Go.Proofs.YtdcgihplkangeaaGreatDoor
/- Merged texts: Dict1, DictW1, EncL7. -/
/- Chapter 3 in plain Lean: unlike values and their places. -/
namespace Go.Proofs.YtdcgihplkangeaaGreatDoor
set_option linter.unusedVariables false
open Go Go.RowKit
def posV (v:Val):List Val → Nat
 | []=>0
 | x :: l=>if valEq x v then 0 else posV v l + 1
theorem posV_le (v:Val):∀ l,posV v l ≤ l.length
 | []=>Nat.le_refl _
 | x :: l=>by
  have:=posV_le v l
  unfold posV
  split <;> simp <;> omega
theorem posV_snoc (v x:Val):∀ l,posV v (l ++ [x]) = if posV v l < l.length then posV v l else if valEq x v then l.length else l.length + 1
 | []=>by simp [posV]
 | y :: l=>by
  have ih:=posV_snoc v x l
  rw [List.cons_append]
  unfold posV
  by_cases hy:valEq y v = true
  ·rw [if_pos hy,if_pos hy,if_pos (by simp)]
  ·rw [if_neg hy,if_neg hy,ih]
   simp only [List.length_cons,Nat.add_lt_add_iff_right]
   split
   ·rfl
   ·split <;> rfl
theorem key_law:Maps.Keyed Tryz.prog 62:=Maps.Keyed.of_law (deep_law_laid (by kernel_rfl) (m:=2) (by omega) (by decide +kernel) (by kernel_rfl) (by kernel_rfl))
def MapOf (us:List Val) (D:DataW Unit):Prop :=
 Maps.IsMap D ∧ ∀ (x:Val) (kl:Lit),x.Ok → Go.keyOf Tryz.prog 62 (.agg (valA x)) = some kl →
  Maps.has D kl = decide (posV x us < us.length) ∧ (posV x us < us.length → ∀ z,D.atKey kl z = .lit (.int .i64 (posV x us:Nat)))
theorem MapOf.empty:MapOf [] (.map []):=⟨Maps.isMap_empty,fun x kl _ _=>⟨rfl,fun h=>by simp at h⟩⟩
theorem MapOf.add {us:List Val} {D:DataW Unit} {v:Val} {kv:Lit} (h:MapOf us D) (hv:v.Ok) (hk:Go.keyOf Tryz.prog 62 (.agg (valA v)) = some kv) (hn:posV v us = us.length) :
  MapOf (us ++ [v]) (D.put kv (.lit (.int .i64 (us.length:Nat)))):=by
 refine ⟨h.1.put _ _,fun x kl hx hkl=>?_⟩
 have hlen:(us ++ [v]).length = us.length + 1:=by simp
 rw [posV_snoc,hlen]
 by_cases hxv:x = v
 ·subst hxv
  obtain rfl:kl = kv:=Option.some.inj (hkl.symm.trans hk)
  rw [if_neg (by omega),if_pos ((valEq_iff x x).2 rfl)]
  refine ⟨?_,fun _ z=>Maps.atKey_put_same h.1 (key_law.key hk) _ _⟩
  rw [Maps.has_put_same h.1 (key_law.key hk)]
  simp
 ·have hne:kl ≠ kv:=fun e=>hxv (by
   subst e
   have:=key_law.inj hkl hk
   obtain ⟨a,b,c⟩:=x
   obtain ⟨a',b',c'⟩:=v
   simp only [valA,Value.agg.injEq] at this
   simpa using this)
  have hvx:valEq v x = false:=by
   cases hh:valEq v x with
   | false=>rfl
   | true=>exact absurd ((valEq_iff v x).1 hh).symm hxv
  obtain ⟨h1,h2⟩:=h.2 x kl hx hkl
  rw [hvx,Maps.has_put_other hne,h1]
  have hle:=posV_le x us
  by_cases hm:posV x us < us.length
  ·rw [if_pos hm]
   refine ⟨by simp [hm];omega,fun _ z=>?_⟩
   rw [Maps.atKey_put_other hne]
   exact h2 hm z
  ·rw [if_neg hm]
   refine ⟨by simp;omega,fun hh=>?_⟩
   simp at hh
end Go.Proofs.YtdcgihplkangeaaGreatDoor
/- The walks of enc.unlike and the document's UnlikeOf. -/
namespace Go.Proofs.YtdcgihplkangeaaGreatDoor
set_option linter.unusedVariables false
open Go Go.RowKit Go.ChangeShapes
end Go.Proofs.YtdcgihplkangeaaGreatDoor
/- The walks of enc.Dict, the document's DictOf and the statement EncDict. -/
namespace Go.Proofs.YtdcgihplkangeaaGreatDoor
set_option linter.unusedVariables false
open Go Go.RowKit Go.ChangeShapes
end Go.Proofs.YtdcgihplkangeaaGreatDoor
/- Merged texts: Del1, DelW1. -/
/- Chapter 3 in plain Lean: numbers by their differences. -/
namespace Go.Proofs.YtdcgihplkangeaaGreatDoor
set_option linter.unusedVariables false
open Go Go.RowKit
end Go.Proofs.YtdcgihplkangeaaGreatDoor
/- The walk of enc.Delta at right numbers. -/
namespace Go.Proofs.YtdcgihplkangeaaGreatDoor
set_option linter.unusedVariables false
open Go Go.RowKit Go.ChangeShapes
end Go.Proofs.YtdcgihplkangeaaGreatDoor
/- Merged texts: DelWa. -/
/- The walk of enc.Delta at right numbers of kind 2. -/
namespace Go.Proofs.YtdcgihplkangeaaGreatDoor
set_option linter.unusedVariables false
open Go Go.RowKit Go.ChangeShapes
end Go.Proofs.YtdcgihplkangeaaGreatDoor
/- Merged texts: DelWb. -/
/- The walk of enc.Delta at right numbers of kind 3. -/
namespace Go.Proofs.YtdcgihplkangeaaGreatDoor
set_option linter.unusedVariables false
open Go Go.RowKit Go.ChangeShapes
end Go.Proofs.YtdcgihplkangeaaGreatDoor
/- Merged texts: DelW2, DelW3. -/
/- enc.Delta at whatever numbers. -/
namespace Go.Proofs.YtdcgihplkangeaaGreatDoor
set_option linter.unusedVariables false
open Go Go.RowKit Go.ChangeShapes
end Go.Proofs.YtdcgihplkangeaaGreatDoor
/- The walk of the document's DeltaOf. -/
namespace Go.Proofs.YtdcgihplkangeaaGreatDoor
set_option linter.unusedVariables false
open Go Go.RowKit Go.ChangeShapes
end Go.Proofs.YtdcgihplkangeaaGreatDoor
/- Merged texts: Best1, Best2, Best3. -/
/- The walks of enc.texts, the document's TextsOf, and enc.Best's own try. -/
namespace Go.Proofs.YtdcgihplkangeaaGreatDoor
set_option linter.unusedVariables false
open Go Go.RowKit Go.ChangeShapes
def BestAt (bc bs:Nat) (k:Int) (s:List UInt8) (w:World):Prop :=
 w.heap[bc]? = some (.cells #[.int .i64 k] 3 (0,0)) ∧ w.heap[bs]? = some (.cells #[.string ⟨s.toArray⟩] 9 (0,0))
theorem BestAt.below {bc bs:Nat} {k:Int} {s:List UInt8} {w w':World} (h:BestAt bc bs k s w) (hb:Below w.heap.size w w'):BestAt bc bs k s w' :=
 ⟨(hb.block _ (Array.getElem?_eq_some_iff.1 h.1).1).trans h.1,(hb.block _ (Array.getElem?_eq_some_iff.1 h.2).1).trans h.2⟩
end Go.Proofs.YtdcgihplkangeaaGreatDoor
/- The walk of enc.Best. -/
namespace Go.Proofs.YtdcgihplkangeaaGreatDoor
set_option linter.unusedVariables false
open Go Go.RowKit Go.ChangeShapes
end Go.Proofs.YtdcgihplkangeaaGreatDoor
/- The walk of the document's BestOf; enc.Best where something is wrong; the statement EncBest. -/
namespace Go.Proofs.YtdcgihplkangeaaGreatDoor
set_option linter.unusedVariables false
open Go Go.RowKit Go.ChangeShapes
end Go.Proofs.YtdcgihplkangeaaGreatDoor
