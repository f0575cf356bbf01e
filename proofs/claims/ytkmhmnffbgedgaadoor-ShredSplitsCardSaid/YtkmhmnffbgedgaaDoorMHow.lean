/- Merged texts: How1, How2, How3, How4, How5. -/
import Derived.Test.YtkmhmnffbgedgaaDoorMRef
import Derived.WideMake
import Derived.Deep.RegionHeld3
import Derived.Test.YtkmhmnffbgedgaaDoorMRow
import Derived.BigQuiet
import Derived.Test.YtkmhmnffbgedgaaDoorMVal
import Derived.Test.YtkmhmnffbgedgaaDoorMEnc
import Derived.Test.YtkmhmnffbgedgaaDoorMErr
import Derived.SliceStrings
import Derived.OpenShut
import Derived.Test.YtkmhmnffbgedgaaDoorMBits
import Derived.Test.YtkmhmnffbgedgaaDoorMPlain
import Derived.WalkKit
import Derived.Lib.Builder
import Derived.Lib.AppendZerosOnto
import Derived.IntWalk
import Derived.DeepKeys4
import Derived.Maps.OwnOps
import Derived.Maps.OwnSet
import Derived.Maps.Views
import Derived.Lib.BitFns
import Derived.Deep.RegionWith
import Derived.Deep.AppendLies
import Derived.Test.YtkmhmnffbgedgaaDoorMWire
/- The walk of stats.table: the map of the six ways to stand. -/
namespace Go.Proofs.YtkmhmnffbgedgaaDoor
set_option linter.unusedVariables false
open Go Go.RowKit Go.ChangeShapes
end Go.Proofs.YtkmhmnffbgedgaaDoor
/- The walk of stats.How. -/
namespace Go.Proofs.YtkmhmnffbgedgaaDoor
set_option linter.unusedVariables false
open Go Go.RowKit Go.ChangeShapes
end Go.Proofs.YtkmhmnffbgedgaaDoor
/- The walk of stats.How at an unknown way and at the six known ones. -/
namespace Go.Proofs.YtkmhmnffbgedgaaDoor
set_option linter.unusedVariables false
open Go Go.RowKit Go.ChangeShapes
end Go.Proofs.YtkmhmnffbgedgaaDoor
/- The walk of the document's StandsOf. -/
namespace Go.Proofs.YtkmhmnffbgedgaaDoor
set_option linter.unusedVariables false
open Go Go.RowKit Go.ChangeShapes
end Go.Proofs.YtkmhmnffbgedgaaDoor
/- How and StandsOf at whatever way. -/
namespace Go.Proofs.YtkmhmnffbgedgaaDoor
set_option linter.unusedVariables false
open Go Go.RowKit Go.ChangeShapes
end Go.Proofs.YtkmhmnffbgedgaaDoor
/- Merged texts: May1, May2, May3. -/
/- The walk of the document's MayOf. -/
namespace Go.Proofs.YtkmhmnffbgedgaaDoor
set_option linter.unusedVariables false
open Go Go.RowKit Go.ChangeShapes
end Go.Proofs.YtkmhmnffbgedgaaDoor
/- The walk of stats.May. -/
namespace Go.Proofs.YtkmhmnffbgedgaaDoor
set_option linter.unusedVariables false
open Go Go.RowKit Go.ChangeShapes
end Go.Proofs.YtkmhmnffbgedgaaDoor
/- stats.May where all is right. -/
namespace Go.Proofs.YtkmhmnffbgedgaaDoor
set_option linter.unusedVariables false
open Go Go.RowKit Go.ChangeShapes
end Go.Proofs.YtkmhmnffbgedgaaDoor
/- Merged texts: Pre1, PreW1, StrArgs. -/
/- Chapter 3 in plain Lean: texts by what they have in common; slices of texts in memory. -/
namespace Go.Proofs.YtkmhmnffbgedgaaDoor
set_option linter.unusedVariables false
open Go Go.RowKit Go.ChangeShapes
def IsStrs (w:World) (v:Value) (l:List ByteArray):Prop :=
 (l = [] ∧ ∃ ad cap,v = .slice ad 0 cap) ∨ (∃ b off cap,v = .slice (some ⟨b,off,none⟩) l.length cap ∧ b < w.heap.size ∧ ∀ (j:Nat) (x:ByteArray),l[j]? = some x → w.cell? ⟨b,off + j,none⟩ = some (.string x))
theorem IsStrs.below {w w':World} {v:Value} {l:List ByteArray} {B:Nat} (h:IsStrs w v l) (hb:Below B w w') (hB:w.heap.size ≤ B):IsStrs w' v l:=by
 rcases h with h | ⟨b,off,cap,rfl,hlt,hc⟩
 ·exact .inl h
 ·exact .inr ⟨b,off,cap,rfl,by have:=hb.size;omega,fun j x hj=>(hb.cell (p:=⟨b,off + j,none⟩) (by show b < B;omega)).trans (hc j x hj)⟩
theorem IsStrs.form {w:World} {v:Value} {l:List ByteArray} (h:IsStrs w v l):∃ ad cap,v = .slice ad l.length cap:=by
 rcases h with ⟨rfl,h⟩ | ⟨b,off,cap,rfl,_⟩
 ·exact h
 ·exact ⟨_,_,rfl⟩
theorem IsStrs.at {w:World} {ad:Option Addr} {n cap:Nat} {l:List ByteArray} (h:IsStrs w (.slice ad n cap) l) (hl:0 < l.length) :
  ∃ b off,ad = some ⟨b,off,none⟩ ∧ n = l.length ∧ b < w.heap.size ∧ ∀ (j:Nat) (x:ByteArray),l[j]? = some x → w.cell? ⟨b,off + j,none⟩ = some (.string x):=by
 rcases h with ⟨rfl,_⟩ | ⟨b,off,cap',he,hlt,hc⟩
 ·simp at hl
 ·injection he with e1 e2 e3
  exact ⟨b,off,e1,e2,hlt,hc⟩
def strV (s:ByteArray):Value:=.string s
theorem IsStrs.of_own {w:World} {B:Nat} {e:TypeId} {v:Value} {l:List ByteArray} (h:w.ownsRow B e 1 v l.length (l.map strV)):IsStrs w v l:=by
 rcases h.2 with ⟨rfl,h0⟩ | ⟨g,cap,cur,rfl,_,hg,_,_,_,_⟩
 ·exact .inl ⟨List.eq_nil_of_length_eq_zero h0,none,0,rfl⟩
 ·refine .inr ⟨g,0,cap,rfl,(Array.getElem?_eq_some_iff.1 hg).1,fun j x hj=>?_⟩
  have hlt:j < l.length:=(List.getElem?_eq_some_iff.1 hj).1
  have:=h.cellAt j (by omega)
  rw [Nat.zero_add,this]
  simp [hj,strV]
end Go.Proofs.YtkmhmnffbgedgaaDoor
/- The walks of enc.Prefix and the document's PrefixOf. -/
namespace Go.Proofs.YtkmhmnffbgedgaaDoor
set_option linter.unusedVariables false
open Go Go.RowKit Go.ChangeShapes
end Go.Proofs.YtkmhmnffbgedgaaDoor
/- Arguments that are texts, opened. -/
namespace Go.Proofs.YtkmhmnffbgedgaaDoor
set_option linter.unusedVariables false
open Go Go.RowKit Go.ChangeShapes Go.WideShapes Go.ChangeAt
end Go.Proofs.YtkmhmnffbgedgaaDoor
/- Merged texts: RunsW1, Zeros, RunsW2. -/
/- The walks of bitrun.number and of the closure in bitrun.Runs. -/
namespace Go.Proofs.YtkmhmnffbgedgaaDoor
set_option linter.unusedVariables false
open Go Go.RowKit Go.ChangeShapes
def OpenAt (B o:Nat) (l:List Nat) (w:World):Prop:=B ≤ o ∧ ∃ v,w.heap[o]? = some (.cells #[v] 22 (0,0)) ∧ w.ownsRow B 3 1 v l.length (l.map natV) ∧ v.ownBlock ≠ some o
theorem OpenAt.kept {B o:Nat} {l:List Nat} {w w':World} {e:TypeId} {b:Option Nat} (h:OpenAt B o l w) (hk:Lib.OthersKept e b w w') (he:e ≠ 22) (he2:e ≠ 3)
  (hob:∀ k cs fz T,w.heap[k]? = some (.cells cs T fz) → (T = 22 ∨ T = 3) → some k ≠ b):OpenAt B o l w':=by
 obtain ⟨hB,v,hbk,hown,hne⟩:=h
 refine ⟨hB,v,hk _ _ hbk (hob _ _ _ _ hbk (.inl rfl)) (fun c fz hc=>he (by injection hc with _ h2 _;exact h2.symm)),⟨hown.1,?_⟩,hne⟩
 rcases hown.2 with h1 | ⟨g,cap,cur,hv,h1,h2,h3⟩
 ·exact .inl h1
 ·exact .inr ⟨g,cap,cur,hv,h1,hk _ _ h2 (hob _ _ _ _ h2 (.inr rfl)) (fun c fz hc=>he2 (by injection hc with _ h2 _;exact h2.symm)),h3⟩
theorem OpenAt.below {B o:Nat} {l:List Nat} {w w':World} (h:OpenAt B o l w) (hb:Below w.heap.size w w'):OpenAt B o l w' :=
 h.kept (e:=5) (b:=none) (others_of_below hb) (by decide) (by decide) (fun _ _ _ _ _ _=>by simp)
end Go.Proofs.YtkmhmnffbgedgaaDoor
/- append(s, make([]T, k)...) on the call's own slice: a law of no program. -/
namespace Go.Proofs.YtkmhmnffbgedgaaDoor
set_option linter.unusedVariables false
open Go Go.RowKit
end Go.Proofs.YtkmhmnffbgedgaaDoor
/- The walk of bitrun.Runs. -/
namespace Go.Proofs.YtkmhmnffbgedgaaDoor
set_option linter.unusedVariables false
open Go Go.RowKit Go.ChangeShapes
def Capped (v:Value):Prop:=∀ ad n cap,v = .slice ad n cap → n ≤ cap
theorem IsNums.sub {K:IntKind} {w:World} {b off:Nat} {l:List Int} (hlt:b < w.heap.size) (hc:∀ j x,l[j]? = some x → w.cell? ⟨b,off + j,none⟩ = some (.int K x)) (j n' cap':Nat) (hn:n' = l.length - j) :
  IsNums K w (.slice (some ⟨b,off + j,none⟩) n' cap') (l.drop j):=by
 by_cases h:l.drop j = []
 ·have:=congrArg List.length h
  rw [List.length_drop,List.length_nil] at this
  exact .inl ⟨h,_,_,by rw [hn,this]⟩
 ·refine .inr ⟨b,off + j,cap',by rw [List.length_drop,hn],hlt,fun i x hi=>?_⟩
  rw [List.getElem?_drop] at hi
  have:=hc (j + i) x hi
  rwa [← Nat.add_assoc] at this
theorem Capped.sub {ad:Option Addr} {n cap j:Nat} (h:n ≤ cap):Capped (.slice ad (n - j) (cap - j)):=by
 intro a' n' c' he
 injection he with _ h2 h3
 omega
end Go.Proofs.YtkmhmnffbgedgaaDoor
/- Merged texts: ReadsW1. -/
/- The walk of bitrun.ReadRuns. -/
namespace Go.Proofs.YtkmhmnffbgedgaaDoor
set_option linter.unusedVariables false
open Go Go.RowKit Go.ChangeShapes
end Go.Proofs.YtkmhmnffbgedgaaDoor
/- Merged texts: RunsOf. -/
/- The walk of the document's RunsOf. -/
namespace Go.Proofs.YtkmhmnffbgedgaaDoor
set_option linter.unusedVariables false
open Go Go.RowKit Go.ChangeShapes
end Go.Proofs.YtkmhmnffbgedgaaDoor
/- Merged texts: Dict1, DictW1, EncL7. -/
/- Chapter 3 in plain Lean: unlike values and their places. -/
namespace Go.Proofs.YtkmhmnffbgedgaaDoor
set_option linter.unusedVariables false
open Go Go.RowKit
def posV (v:Val):List Val → Nat
 | []=>0
 | x :: l=>if valEq x v then 0 else posV v l + 1
theorem posV_le (v:Val):∀ l,posV v l ≤ l.length
 | []=>Nat.le_refl _
 | x :: l=>by
  have:=posV_le v l
  unfold posV
  split <;> simp <;> omega
theorem posV_snoc (v x:Val):∀ l,posV v (l ++ [x]) = if posV v l < l.length then posV v l else if valEq x v then l.length else l.length + 1
 | []=>by simp [posV]
 | y :: l=>by
  have ih:=posV_snoc v x l
  rw [List.cons_append]
  unfold posV
  by_cases hy:valEq y v = true
  ·rw [if_pos hy,if_pos hy,if_pos (by simp)]
  ·rw [if_neg hy,if_neg hy,ih]
   simp only [List.length_cons,Nat.add_lt_add_iff_right]
   split
   ·rfl
   ·split <;> rfl
theorem key_law:Maps.Keyed Tryd.prog 61:=Maps.Keyed.of_law (deep_law_laid (by kernel_rfl) (m:=2) (by omega) (by decide +kernel) (by kernel_rfl) (by kernel_rfl))
def MapOf (us:List Val) (D:DataW Unit):Prop :=
 Maps.IsMap D ∧ ∀ (x:Val) (kl:Lit),x.Ok → Go.keyOf Tryd.prog 61 (.agg (valA x)) = some kl →
  Maps.has D kl = decide (posV x us < us.length) ∧ (posV x us < us.length → ∀ z,D.atKey kl z = .lit (.int .i64 (posV x us:Nat)))
theorem MapOf.empty:MapOf [] (.map []):=⟨Maps.isMap_empty,fun x kl _ _=>⟨rfl,fun h=>by simp at h⟩⟩
theorem MapOf.add {us:List Val} {D:DataW Unit} {v:Val} {kv:Lit} (h:MapOf us D) (hv:v.Ok) (hk:Go.keyOf Tryd.prog 61 (.agg (valA v)) = some kv) (hn:posV v us = us.length) :
  MapOf (us ++ [v]) (D.put kv (.lit (.int .i64 (us.length:Nat)))):=by
 refine ⟨h.1.put _ _,fun x kl hx hkl=>?_⟩
 have hlen:(us ++ [v]).length = us.length + 1:=by simp
 rw [posV_snoc,hlen]
 by_cases hxv:x = v
 ·subst hxv
  obtain rfl:kl = kv:=Option.some.inj (hkl.symm.trans hk)
  rw [if_neg (by omega),if_pos ((valEq_iff x x).2 rfl)]
  refine ⟨?_,fun _ z=>Maps.atKey_put_same h.1 (key_law.key hk) _ _⟩
  rw [Maps.has_put_same h.1 (key_law.key hk)]
  simp
 ·have hne:kl ≠ kv:=fun e=>hxv (by
   subst e
   have:=key_law.inj hkl hk
   obtain ⟨a,b,c⟩:=x
   obtain ⟨a',b',c'⟩:=v
   simp only [valA,Value.agg.injEq] at this
   simpa using this)
  have hvx:valEq v x = false:=by
   cases hh:valEq v x with
   | false=>rfl
   | true=>exact absurd ((valEq_iff v x).1 hh).symm hxv
  obtain ⟨h1,h2⟩:=h.2 x kl hx hkl
  rw [hvx,Maps.has_put_other hne,h1]
  have hle:=posV_le x us
  by_cases hm:posV x us < us.length
  ·rw [if_pos hm]
   refine ⟨by simp [hm];omega,fun _ z=>?_⟩
   rw [Maps.atKey_put_other hne]
   exact h2 hm z
  ·rw [if_neg hm]
   refine ⟨by simp;omega,fun hh=>?_⟩
   simp at hh
end Go.Proofs.YtkmhmnffbgedgaaDoor
/- The walks of enc.unlike and the document's UnlikeOf. -/
namespace Go.Proofs.YtkmhmnffbgedgaaDoor
set_option linter.unusedVariables false
open Go Go.RowKit Go.ChangeShapes
end Go.Proofs.YtkmhmnffbgedgaaDoor
/- The walks of enc.Dict, the document's DictOf and the statement EncDict. -/
namespace Go.Proofs.YtkmhmnffbgedgaaDoor
set_option linter.unusedVariables false
open Go Go.RowKit Go.ChangeShapes
end Go.Proofs.YtkmhmnffbgedgaaDoor
/- Merged texts: Del1, DelW1. -/
/- Chapter 3 in plain Lean: numbers by their differences. -/
namespace Go.Proofs.YtkmhmnffbgedgaaDoor
set_option linter.unusedVariables false
open Go Go.RowKit
end Go.Proofs.YtkmhmnffbgedgaaDoor
/- The walk of enc.Delta at right numbers. -/
namespace Go.Proofs.YtkmhmnffbgedgaaDoor
set_option linter.unusedVariables false
open Go Go.RowKit Go.ChangeShapes
end Go.Proofs.YtkmhmnffbgedgaaDoor
/- Merged texts: DelWa. -/
/- The walk of enc.Delta at right numbers of kind 2. -/
namespace Go.Proofs.YtkmhmnffbgedgaaDoor
set_option linter.unusedVariables false
open Go Go.RowKit Go.ChangeShapes
end Go.Proofs.YtkmhmnffbgedgaaDoor
/- Merged texts: DelWb. -/
/- The walk of enc.Delta at right numbers of kind 3. -/
namespace Go.Proofs.YtkmhmnffbgedgaaDoor
set_option linter.unusedVariables false
open Go Go.RowKit Go.ChangeShapes
end Go.Proofs.YtkmhmnffbgedgaaDoor
/- Merged texts: DelW2, DelW3. -/
/- enc.Delta at whatever numbers. -/
namespace Go.Proofs.YtkmhmnffbgedgaaDoor
set_option linter.unusedVariables false
open Go Go.RowKit Go.ChangeShapes
end Go.Proofs.YtkmhmnffbgedgaaDoor
/- The walk of the document's DeltaOf. -/
namespace Go.Proofs.YtkmhmnffbgedgaaDoor
set_option linter.unusedVariables false
open Go Go.RowKit Go.ChangeShapes
end Go.Proofs.YtkmhmnffbgedgaaDoor
/- Merged texts: Best1, Best2, Best3. -/
/- The walks of enc.texts, the document's TextsOf, and enc.Best's own try. -/
namespace Go.Proofs.YtkmhmnffbgedgaaDoor
set_option linter.unusedVariables false
open Go Go.RowKit Go.ChangeShapes
def BestAt (bc bs:Nat) (k:Int) (s:List UInt8) (w:World):Prop :=
 w.heap[bc]? = some (.cells #[.int .i64 k] 3 (0,0)) ∧ w.heap[bs]? = some (.cells #[.string ⟨s.toArray⟩] 9 (0,0))
theorem BestAt.below {bc bs:Nat} {k:Int} {s:List UInt8} {w w':World} (h:BestAt bc bs k s w) (hb:Below w.heap.size w w'):BestAt bc bs k s w' :=
 ⟨(hb.block _ (Array.getElem?_eq_some_iff.1 h.1).1).trans h.1,(hb.block _ (Array.getElem?_eq_some_iff.1 h.2).1).trans h.2⟩
end Go.Proofs.YtkmhmnffbgedgaaDoor
/- The walk of enc.Best. -/
namespace Go.Proofs.YtkmhmnffbgedgaaDoor
set_option linter.unusedVariables false
open Go Go.RowKit Go.ChangeShapes
end Go.Proofs.YtkmhmnffbgedgaaDoor
/- The walk of the document's BestOf; enc.Best where something is wrong; the statement EncBest. -/
namespace Go.Proofs.YtkmhmnffbgedgaaDoor
set_option linter.unusedVariables false
open Go Go.RowKit Go.ChangeShapes
end Go.Proofs.YtkmhmnffbgedgaaDoor
/- Merged texts: Row3, Row4, Res. -/
/- More on nine cells written over. -/
namespace Go.Proofs.YtkmhmnffbgedgaaDoor
set_option linter.unusedVariables false
open Go Go.RowKit
theorem cell_drewR (w:World) (p:Addr):w.drew.cell? p = w.cell? p:=rfl
theorem heap_drew (w:World):w.drew.heap = w.heap:=rfl
end Go.Proofs.YtkmhmnffbgedgaaDoor
/- 4 cells written over a block that is known (by tools/gen_rown.py). -/
namespace Go.Proofs.YtkmhmnffbgedgaaDoor
set_option linter.unusedVariables false
open Go Go.RowKit
theorem set4_nest (w:World) (g:Nat) (x0 x1 x2 x3:Value):w.setCells g 0 [x0,x1,x2,x3] = ((((w.setCell ⟨g,0,none⟩ x0).setCell ⟨g,1,none⟩ x1).setCell ⟨g,2,none⟩ x2).setCell ⟨g,3,none⟩ x3):=rfl
theorem row_set4 {w:World} {g:Nat} {cs:Array Value} {t:TypeId} (hg:w.heap[g]? = some (.cells cs t (0,0))) (hsz:cs.size = 4) (x0 x1 x2 x3:Value):((((w.setCell ⟨g,0,none⟩ x0).setCell ⟨g,1,none⟩ x1).setCell ⟨g,2,none⟩ x2).setCell ⟨g,3,none⟩ x3).heap[g]? = some (.cells #[x0,x1,x2,x3] t (0,0)):=by
 rw [← set4_nest]
 obtain ⟨a,-⟩:=setCells_row g t [x0,x1,x2,x3] w cs 0 hg
 rw [setPart_eq _ _ _ (by simp;omega)] at a
 refine Eq.trans a ?_
 obtain ⟨L⟩:=cs
 have hL:L.length = 4:=by simpa using hsz
 simp [setPart,List.drop_of_length_le (Nat.le_of_eq hL)]
theorem row_set4d {w:World} {g:Nat} {cs:Array Value} {t:TypeId} (hg:w.heap[g]? = some (.cells cs t (0,0))) (hsz:cs.size = 4) (x0 x1 x2 x3:Value):((((w.setCell ⟨g,0,none⟩ x0).setCell ⟨g,1,none⟩ x1).setCell ⟨g,2,none⟩ x2).setCell ⟨g,3,none⟩ x3).drew.heap[g]? = some (.cells #[x0,x1,x2,x3] t (0,0)):=by
 rw [heap_drew]
 exact row_set4 hg hsz x0 x1 x2 x3
theorem set4_other {w:World} {g k:Nat} (hne:g ≠ k) (x0 x1 x2 x3:Value):((((w.setCell ⟨k,0,none⟩ x0).setCell ⟨k,1,none⟩ x1).setCell ⟨k,2,none⟩ x2).setCell ⟨k,3,none⟩ x3).heap[g]? = w.heap[g]?:=by
 rw [heap_setCell_other _ _ _ _ hne,heap_setCell_other _ _ _ _ hne,heap_setCell_other _ _ _ _ hne,heap_setCell_other _ _ _ _ hne]
theorem cell_set4 {w:World} {b o k:Nat} {v:Option Value} (hne:b ≠ k) (h:w.cell? ⟨b,o,none⟩ = v) (x0 x1 x2 x3:Value):((((w.setCell ⟨k,0,none⟩ x0).setCell ⟨k,1,none⟩ x1).setCell ⟨k,2,none⟩ x2).setCell ⟨k,3,none⟩ x3).cell? ⟨b,o,none⟩ = v:=by
 rw [← h]
 refine World.cell?_of_block (a:=⟨b,o,none⟩) ?_
 show _ = w.heap[b]?
 rw [heap_setCell_other _ _ _ _ hne,heap_setCell_other _ _ _ _ hne,heap_setCell_other _ _ _ _ hne,heap_setCell_other _ _ _ _ hne]
theorem cell_set4d {w:World} {b o k:Nat} {v:Option Value} (hne:b ≠ k) (h:w.cell? ⟨b,o,none⟩ = v) (x0 x1 x2 x3:Value):((((w.setCell ⟨k,0,none⟩ x0).setCell ⟨k,1,none⟩ x1).setCell ⟨k,2,none⟩ x2).setCell ⟨k,3,none⟩ x3).drew.cell? ⟨b,o,none⟩ = v:=(cell_drewR _ _).trans <| cell_set4 hne h x0 x1 x2 x3
theorem rowc_set4 {w:World} {g k:Nat} {cs:Array Value} {t:TypeId} (hg:w.heap[g]? = some (.cells cs t (0,0))) (hne:g ≠ k) (x0 x1 x2 x3:Value):∀ j,((((w.setCell ⟨k,0,none⟩ x0).setCell ⟨k,1,none⟩ x1).setCell ⟨k,2,none⟩ x2).setCell ⟨k,3,none⟩ x3).cell? ⟨g,j,none⟩ = cs[j]? :=
 rowc (t:=t) ((set4_other hne x0 x1 x2 x3).trans hg)
theorem below_set4 {w:World} {B:Nat} {a:World} (h:Below B a w) (g:Nat) (hg:B ≤ g) (x0 x1 x2 x3:Value):Below B a ((((w.setCell ⟨g,0,none⟩ x0).setCell ⟨g,1,none⟩ x1).setCell ⟨g,2,none⟩ x2).setCell ⟨g,3,none⟩ x3):=(((h.setCell hg x0).setCell hg x1).setCell hg x2).setCell hg x3
end Go.Proofs.YtkmhmnffbgedgaaDoor
/- What a function with a struct result hands back, the slots by equations. -/
namespace Go.Proofs.YtkmhmnffbgedgaaDoor
set_option linter.unusedVariables false
open Go Go.RowKit
end Go.Proofs.YtkmhmnffbgedgaaDoor
/- Merged texts: Wire2, WireW2, WireW3. -/
/- Chapter 1 in plain Lean: the remainder of bytes, bit by bit. -/
namespace Go.Proofs.YtkmhmnffbgedgaaDoor
end Go.Proofs.YtkmhmnffbgedgaaDoor
/- The walks of wire.table, wire.Sum and the document's Remainder. -/
namespace Go.Proofs.YtkmhmnffbgedgaaDoor
open Go Go.RowKit
end Go.Proofs.YtkmhmnffbgedgaaDoor
/- The walk of wire.Sum. -/
namespace Go.Proofs.YtkmhmnffbgedgaaDoor
open Go Go.RowKit
end Go.Proofs.YtkmhmnffbgedgaaDoor
