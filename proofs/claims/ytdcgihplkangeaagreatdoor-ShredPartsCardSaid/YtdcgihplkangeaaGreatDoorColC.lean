/- Slices of columns in memory. -/
import Derived.Test.YtdcgihplkangeaaGreatDoorMVal
import Derived.Test.YtdcgihplkangeaaGreatDoorMRow
import Derived.Test.YtdcgihplkangeaaGreatDoorMWire
import Derived.Test.YtdcgihplkangeaaGreatDoorMPlain
import Derived.Test.YtdcgihplkangeaaGreatDoorMRef
import Derived.Test.YtdcgihplkangeaaGreatDoorMOw
import Derived.Deep.RegionHeld3
import Derived.Lib.SliceRun
namespace Go.Proofs.YtdcgihplkangeaaGreatDoor
set_option linter.unusedVariables false
open Go Go.RowKit Go.ChangeShapes
def ColAt (w:World) (b o:Nat) (c:Col):Prop:=∃ p q d,IsInts w p c.rep ∧ IsInts w q c.df ∧ IsVals w d c.vals ∧ ∀ j v,(colA c p q d)[j]? = some v → w.cell? ⟨b,o + j,none⟩ = some v
def IsCols (w:World) (v:Value) (l:List Col):Prop :=
 (l = [] ∧ ∃ ad cap,v = .slice ad 0 cap) ∨ ∃ b off cap,v = .slice (some ⟨b,off,none⟩) l.length cap ∧ b < w.heap.size ∧ ∀ (j:Nat) (c:Col),l[j]? = some c → ColAt w b (off + j * 4) c
theorem ColAt.below {w w':World} {b o:Nat} {c:Col} {B:Nat} (h:ColAt w b o c) (hb:Below B w w') (hB:w.heap.size ≤ B) (hl:b < w.heap.size):ColAt w' b o c:=by
 obtain ⟨p,q,d,h1,h2,h3,h4⟩:=h
 exact ⟨p,q,d,h1.below hb hB,h2.below hb hB,h3.below hb hB,fun j v hj=>(hb.cell (p:=⟨b,o + j,none⟩) (Nat.lt_of_lt_of_le hl hB)).trans (h4 j v hj)⟩
theorem IsCols.below {w w':World} {v:Value} {l:List Col} {B:Nat} (h:IsCols w v l) (hb:Below B w w') (hB:w.heap.size ≤ B):IsCols w' v l:=by
 rcases h with h | ⟨b,off,cap,h1,h2,h3⟩
 ·exact .inl h
 ·exact .inr ⟨b,off,cap,h1,Nat.lt_of_lt_of_le h2 hb.size,fun j c hj=>(h3 j c hj).below hb hB h2⟩
theorem IsCols.form {w:World} {v:Value} {l:List Col} (h:IsCols w v l):∃ ad cap,v = .slice ad l.length cap:=by
 rcases h with ⟨rfl,ad,cap,rfl⟩ | ⟨b,off,cap,rfl,_⟩
 ·exact ⟨ad,cap,rfl⟩
 ·exact ⟨_,cap,rfl⟩
theorem IsCols.at {w:World} {ad:Option Addr} {n cap:Nat} {l:List Col} (h:IsCols w (.slice ad n cap) l) (hl:0 < l.length) :
  ∃ b off,ad = some ⟨b,off,none⟩ ∧ n = l.length ∧ b < w.heap.size ∧ ∀ (j:Nat) (c:Col),l[j]? = some c → ColAt w b (off + j * 4) c:=by
 rcases h with ⟨rfl,_⟩ | ⟨b,off,cap',hv,h2,h3⟩
 ·simp at hl
 ·injection hv with e1 e2 e3
  exact ⟨b,off,e1,e2,h2,h3⟩
theorem col_info:(Tryz.prog.info? 27).map (·.size) = some 4:=by kernel_rfl
end Go.Proofs.YtdcgihplkangeaaGreatDoor
/- Merged texts: Row3, Row4, Res. -/
/- More on nine cells written over. -/
namespace Go.Proofs.YtdcgihplkangeaaGreatDoor
set_option linter.unusedVariables false
open Go Go.RowKit
end Go.Proofs.YtdcgihplkangeaaGreatDoor
/- 4 cells written over a block that is known (by tools/gen_rown.py). -/
namespace Go.Proofs.YtdcgihplkangeaaGreatDoor
set_option linter.unusedVariables false
open Go Go.RowKit
theorem set4_nest (w:World) (g:Nat) (x0 x1 x2 x3:Value):w.setCells g 0 [x0,x1,x2,x3] = ((((w.setCell ⟨g,0,none⟩ x0).setCell ⟨g,1,none⟩ x1).setCell ⟨g,2,none⟩ x2).setCell ⟨g,3,none⟩ x3):=rfl
theorem row_set4 {w:World} {g:Nat} {cs:Array Value} {t:TypeId} (hg:w.heap[g]? = some (.cells cs t (0,0))) (hsz:cs.size = 4) (x0 x1 x2 x3:Value):((((w.setCell ⟨g,0,none⟩ x0).setCell ⟨g,1,none⟩ x1).setCell ⟨g,2,none⟩ x2).setCell ⟨g,3,none⟩ x3).heap[g]? = some (.cells #[x0,x1,x2,x3] t (0,0)):=by
 rw [← set4_nest]
 obtain ⟨a,-⟩:=setCells_row g t [x0,x1,x2,x3] w cs 0 hg
 rw [setPart_eq _ _ _ (by simp;omega)] at a
 refine Eq.trans a ?_
 obtain ⟨L⟩:=cs
 have hL:L.length = 4:=by simpa using hsz
 simp [setPart,List.drop_of_length_le (Nat.le_of_eq hL)]
theorem set4_other {w:World} {g k:Nat} (hne:g ≠ k) (x0 x1 x2 x3:Value):((((w.setCell ⟨k,0,none⟩ x0).setCell ⟨k,1,none⟩ x1).setCell ⟨k,2,none⟩ x2).setCell ⟨k,3,none⟩ x3).heap[g]? = w.heap[g]?:=by
 rw [heap_setCell_other _ _ _ _ hne,heap_setCell_other _ _ _ _ hne,heap_setCell_other _ _ _ _ hne,heap_setCell_other _ _ _ _ hne]
theorem rowc_set4 {w:World} {g k:Nat} {cs:Array Value} {t:TypeId} (hg:w.heap[g]? = some (.cells cs t (0,0))) (hne:g ≠ k) (x0 x1 x2 x3:Value):∀ j,((((w.setCell ⟨k,0,none⟩ x0).setCell ⟨k,1,none⟩ x1).setCell ⟨k,2,none⟩ x2).setCell ⟨k,3,none⟩ x3).cell? ⟨g,j,none⟩ = cs[j]? :=
 rowc (t:=t) ((set4_other hne x0 x1 x2 x3).trans hg)
theorem below_set4 {w:World} {B:Nat} {a:World} (h:Below B a w) (g:Nat) (hg:B ≤ g) (x0 x1 x2 x3:Value):Below B a ((((w.setCell ⟨g,0,none⟩ x0).setCell ⟨g,1,none⟩ x1).setCell ⟨g,2,none⟩ x2).setCell ⟨g,3,none⟩ x3):=(((h.setCell hg x0).setCell hg x1).setCell hg x2).setCell hg x3
end Go.Proofs.YtdcgihplkangeaaGreatDoor
/- What a function with a struct result hands back, the slots by equations. -/
namespace Go.Proofs.YtdcgihplkangeaaGreatDoor
set_option linter.unusedVariables false
open Go Go.RowKit
end Go.Proofs.YtdcgihplkangeaaGreatDoor
/- Merged texts: Wire2, WireW2, WireW3. -/
/- Chapter 1 in plain Lean: the remainder of bytes, bit by bit. -/
namespace Go.Proofs.YtdcgihplkangeaaGreatDoor
end Go.Proofs.YtdcgihplkangeaaGreatDoor
/- The walks of wire.table, wire.Sum and the document's Remainder. -/
namespace Go.Proofs.YtdcgihplkangeaaGreatDoor
open Go Go.RowKit
end Go.Proofs.YtdcgihplkangeaaGreatDoor
/- The walk of wire.Sum. -/
namespace Go.Proofs.YtdcgihplkangeaaGreatDoor
open Go Go.RowKit
end Go.Proofs.YtdcgihplkangeaaGreatDoor
/- Merged texts: Bnd1, BestC, Tx1, Jn0, Pg1. -/
/- Columns joined: plain Lean; what is known of them. -/
namespace Go.Proofs.YtdcgihplkangeaaGreatDoor
set_option linter.unusedVariables false
open Go Go.RowKit
def Col.app (a b:Col):Col:=⟨a.id,a.rep ++ b.rep,a.df ++ b.df,a.vals ++ b.vals⟩
theorem levelsB_app (f:Lf):∀ (r d r' d':List Int),r.length = d.length → levelsB f r d = true → levelsB f r' d' = true → levelsB f (r ++ r') (d ++ d') = true
 | [],[],_,_,_,_,h=>by simpa using h
 | x :: r,y :: d,r',d',hl,h,h'=>by
  simp only [List.length_cons] at hl
  simp only [levelsB,Bool.and_eq_true,List.cons_append] at h ⊢
  exact ⟨h.1,levelsB_app f r d r' d' (by omega) h.2 h'⟩
theorem many_app (md:Int) (a b:List Int):many md (a ++ b) = many md a + many md b:=by
 unfold many
 rw [List.filter_append,List.length_append]
theorem colErr_nil {f:Lf} {c:Col} {free:Bool}:colErr f c free = .nil ↔ shapeB f c free = true ∧ ∀ x ∈ c.vals,OkP f.kind x:=by
 unfold colErr
 constructor
 ·intro h
  split at h
  ·rename_i hs
   refine ⟨hs,(badAt_none f.kind c.vals 0).1 ?_⟩
   split at h
   ·assumption
   ·cases h
  ·cases h
 ·rintro ⟨h1,h2⟩
  rw [if_pos h1,(badAt_none f.kind c.vals 0).2 h2]
structure Right (f:Lf) (c:Col):Prop where
 k1:1 ≤ f.kind
 k5:f.kind ≤ 5
 r0:0 ≤ f.mr
 r40:f.mr ≤ 40
 d0:0 ≤ f.md
 d40:f.md ≤ 40
 id:f.id = c.id
 len:c.rep.length = c.df.length
 lev:levelsB f c.rep c.df = true
 many:many f.md c.df = c.vals.length
 vals:∀ x ∈ c.vals,OkP f.kind x
theorem right_of {f:Lf} {c:Col} {free:Bool} (h:colErr f c free = .nil):Right f c ∧ (free || (c.rep.head?.getD 0 == 0)) = true:=by
 obtain ⟨h1,h2⟩:=colErr_nil.1 h
 unfold shapeB headB rightB at h1
 simp only [Bool.and_eq_true,decide_eq_true_iff] at h1
 obtain ⟨⟨⟨a1,a2,a3,a4,a5,a6⟩,b,c',d⟩,e,g⟩:=h1
 exact ⟨⟨a1,a2,a3,a4,a5,a6,b,c',e,g,h2⟩,d⟩
theorem Right.nil {f:Lf} {c:Col} {free:Bool} (h:Right f c) (hf:(free || (c.rep.head?.getD 0 == 0)) = true):colErr f c free = .nil:=by
 refine colErr_nil.2 ⟨?_,h.vals⟩
 unfold shapeB headB rightB
 simp only [Bool.and_eq_true,decide_eq_true_iff]
 exact ⟨⟨⟨h.k1,h.k5,h.r0,h.r40,h.d0,h.d40⟩,h.id,h.len,hf⟩,h.lev,h.many⟩
theorem Right.app {f:Lf} {a b:Col} (ha:Right f a) (hb:Right f b):Right f (a.app b) :=
 ⟨ha.k1,ha.k5,ha.r0,ha.r40,ha.d0,ha.d40,ha.id,by simp [Col.app,ha.len,hb.len],levelsB_app f _ _ _ _ ha.len ha.lev hb.lev,by simp [Col.app,many_app,ha.many,hb.many],by
  intro x hx
  rcases List.mem_append.1 hx with h | h
  ·exact ha.vals x h
  ·exact hb.vals x h⟩
end Go.Proofs.YtdcgihplkangeaaGreatDoor
/- Which way is the best one: plain Lean. -/
namespace Go.Proofs.YtdcgihplkangeaaGreatDoor
set_option linter.unusedVariables false
open Go Go.RowKit Go.ChangeShapes
end Go.Proofs.YtdcgihplkangeaaGreatDoor
/- The text of what is known: plain Lean; the walks of stats.one and stats.Text. -/
namespace Go.Proofs.YtdcgihplkangeaaGreatDoor
set_option linter.unusedVariables false
open Go Go.RowKit Go.ChangeShapes
end Go.Proofs.YtdcgihplkangeaaGreatDoor
/- Columns in memory: slices of them; plain Lean on joining. -/
namespace Go.Proofs.YtdcgihplkangeaaGreatDoor
set_option linter.unusedVariables false
open Go Go.RowKit Go.ChangeShapes
def GErr.isNil:GErr → Bool
 | .nil=>true
 | _=>false
theorem own_cap' {w:World} {B n s:Nat} {e:TypeId} {v:Value} {xs:List Value} (h:w.ownsRow B e s v n xs):∃ m b c,v = .slice b m c:=by
 obtain ⟨b,c,h1,-⟩:=own_cap h
 exact ⟨n,b,c,h1⟩
end Go.Proofs.YtdcgihplkangeaaGreatDoor
/- A page: plain Lean. -/
namespace Go.Proofs.YtdcgihplkangeaaGreatDoor
set_option linter.unusedVariables false
open Go Go.RowKit Go.ChangeShapes
def lwd (m:Int):Nat:=Lib.bitLen m.toNat
theorem manyB_le (md:Int) (l:List Int):many md l ≤ l.length:=List.length_filter_le _ _
theorem Right.vals_le {f:Lf} {c:Col} (h:Right f c):c.vals.length ≤ c.rep.length:=by
 rw [← h.many,h.len];exact manyB_le _ _
def lev (m:Int) (l:List Int):List UInt8:=textOf (runsB (lwd m) (nats l) [])
end Go.Proofs.YtdcgihplkangeaaGreatDoor
/- Chunks: plain Lean: where records begin. -/
namespace Go.Proofs.YtdcgihplkangeaaGreatDoor
set_option linter.unusedVariables false
open Go Go.RowKit Go.ChangeShapes
def begsFrom (k:Nat):List Int → List Nat
 | []=>[]
 | x :: l=>if x = 0 then k :: begsFrom (k + 1) l else begsFrom (k + 1) l
def begs (l:List Int):List Nat:=begsFrom 0 l
def marksOf (l:List Int):List Nat:=begs l ++ [l.length]
def countC (l:List Int):Nat:=(l.filter fun x=>x == 0).length
theorem begsFrom_len:∀ (l:List Int) (k:Nat),(begsFrom k l).length = countC l
 | [],k=>rfl
 | x :: l,k=>by
  unfold begsFrom countC
  by_cases h:x = 0
  ·rw [if_pos h,List.length_cons,begsFrom_len l (k + 1),List.filter_cons_of_pos (by simpa using h)];rfl
  ·rw [if_neg h,begsFrom_len l (k + 1),List.filter_cons_of_neg (by simpa using h)];rfl
theorem begs_len (l:List Int):(begs l).length = countC l:=begsFrom_len l 0
theorem marksOf_len (l:List Int):(marksOf l).length = countC l + 1:=by rw [marksOf,List.length_append,begs_len];rfl
theorem begsFrom_snoc:∀ (l:List Int) (k:Nat) (x:Int),begsFrom k (l ++ [x]) = begsFrom k l ++ (if x = 0 then [k + l.length] else [])
 | [],k,x=>by simp [begsFrom]
 | y :: l,k,x=>by
  simp only [List.cons_append,begsFrom,begsFrom_snoc l (k + 1) x,List.length_cons]
  rw [show k + 1 + l.length = k + (l.length + 1) by omega]
  by_cases h:y = 0
  ·rw [if_pos h,if_pos h,List.cons_append]
  ·rw [if_neg h,if_neg h]
theorem countC_app (a b:List Int):countC (a ++ b) = countC a + countC b:=by unfold countC;rw [List.filter_append,List.length_append]
theorem take_snocL {α:Type} (l:List α) (i:Nat) (h:i < l.length):l.take (i + 1) = l.take i ++ [l[i]]:=by
 rw [List.take_add_one,List.getElem?_eq_getElem h];rfl
theorem begs_take (l:List Int) (i:Nat) (h:i < l.length):begs (l.take (i + 1)) = begs (l.take i) ++ (if l[i] = 0 then [i] else []):=by
 unfold begs
 rw [take_snocL l i h,begsFrom_snoc,Nat.zero_add,List.length_take,Nat.min_eq_left (by omega)]
theorem countC_take (l:List Int) (i:Nat) (h:i < l.length):countC (l.take (i + 1)) = countC (l.take i) + (if l[i] = 0 then 1 else 0):=by
 rw [take_snocL l i h,countC_app]
 congr 1
 unfold countC
 by_cases h0:l[i] = 0
 ·rw [if_pos h0,List.filter_cons_of_pos (by simpa using h0)];rfl
 ·rw [if_neg h0,List.filter_cons_of_neg (by simpa using h0)];rfl
theorem begsFrom_at:∀ (l:List Int) (k m p:Nat),(begsFrom k l ++ [k + l.length])[m]? = some p → k ≤ p ∧ p ≤ k + l.length ∧ ∀ i,i < l.length → (m < countC (l.take (i + 1)) ↔ p ≤ k + i)
 | [],k,m,p,h=>by
  cases m with
  | zero=>simp [begsFrom] at h;subst h;simp
  | succ m=>simp [begsFrom] at h
 | x :: l,k,m,p,h=>by
  have hk:k + (x :: l).length = k + 1 + l.length:=by rw [List.length_cons];omega
  rw [hk] at h ⊢
  unfold begsFrom at h
  by_cases h0:x = 0
  ·rw [if_pos h0,List.cons_append] at h
   cases m with
   | zero =>
    simp only [List.getElem?_cons_zero,Option.some.injEq] at h
    subst h
    refine ⟨Nat.le_refl _,by omega,fun i hi=>⟨fun _=>by omega,fun _=>?_⟩⟩
    rw [List.take_succ_cons]
    unfold countC
    rw [List.filter_cons_of_pos (by simpa using h0),List.length_cons]
    omega
   | succ m =>
    rw [List.getElem?_cons_succ] at h
    obtain ⟨h1,h2,h3⟩:=begsFrom_at l (k + 1) m p h
    refine ⟨by omega,h2,fun i hi=>?_⟩
    cases i with
    | zero =>
     constructor
     ·intro h;exfalso
      rw [List.take_succ_cons,List.take_zero] at h
      unfold countC at h
      rw [List.filter_cons_of_pos (by simpa using h0)] at h
      simp at h
     ·intro h;omega
    | succ i =>
     have:=h3 i (by simpa using hi)
     rw [List.take_succ_cons]
     unfold countC at this ⊢
     rw [List.filter_cons_of_pos (by simpa using h0),List.length_cons]
     constructor
     ·intro h;have:=this.1 (by omega);omega
     ·intro h;have:=this.2 (by omega);omega
  ·rw [if_neg h0] at h
   obtain ⟨h1,h2,h3⟩:=begsFrom_at l (k + 1) m p h
   refine ⟨by omega,h2,fun i hi=>?_⟩
   cases i with
   | zero =>
    constructor
    ·intro h;exfalso
     rw [List.take_succ_cons,List.take_zero] at h
     unfold countC at h
     rw [List.filter_cons_of_neg (by simpa using h0)] at h
     simp at h
    ·intro h;omega
   | succ i =>
    have:=h3 i (by simpa using hi)
    rw [List.take_succ_cons]
    unfold countC at this ⊢
    rw [List.filter_cons_of_neg (by simpa using h0)]
    constructor
    ·intro h;have:=this.1 h;omega
    ·intro h;exact this.2 (by omega)
theorem marksOf_at {l:List Int} {m p:Nat} (h:(marksOf l)[m]? = some p):p ≤ l.length ∧ ∀ i,i < l.length → (m < countC (l.take (i + 1)) ↔ p ≤ i):=by
 have:=begsFrom_at l 0 m p (by rw [Nat.zero_add];exact h)
 simp only [Nat.zero_add] at this
 exact ⟨this.2.1,this.2.2⟩
theorem marksOf_mono {l:List Int} {m n p q:Nat} (hp:(marksOf l)[m]? = some p) (hq:(marksOf l)[n]? = some q) (h:m < n):p < q:=by
 obtain ⟨p1,p2⟩:=marksOf_at hp
 obtain ⟨q1,q2⟩:=marksOf_at hq
 have hn:n < (marksOf l).length:=(List.getElem?_eq_some_iff.1 hq).1
 rw [marksOf_len] at hn
 by_cases hpl:p < l.length
 ·by_cases hlt:p < q
  ·exact hlt
  ·exfalso
   have h1:=(q2 p hpl).2 (by omega)
   -- entry p lies in record n or behind;it begins record m
   by_cases h0:p = 0
   ·subst h0
    have:countC (l.take 1) ≤ 1:=by
     unfold countC
     exact Nat.le_trans (List.length_filter_le _ _) (by simp;omega)
    simp only [Nat.zero_add] at h1
    omega
   ·have h2:¬ m < countC (l.take (p - 1 + 1)):=fun hh=>by have:=(p2 (p - 1) (by omega)).1 hh;omega
    rw [show p - 1 + 1 = p by omega] at h2
    rw [countC_take l p hpl] at h1
    split at h1 <;> omega
 ·have hpe:p = l.length:=by omega
  have hm:∀ i,i < l.length → ¬ m < countC (l.take (i + 1)):=fun i hi hh=>by have:=(p2 i hi).1 hh;omega
  exfalso
  by_cases h0:l.length = 0
  ·have:l = []:=List.length_eq_zero_iff.1 h0
   subst this
   have:countC ([]:List Int) = 0:=rfl
   omega
  ·have:=hm (l.length - 1) (by omega)
   rw [show l.length - 1 + 1 = l.length by omega,List.take_length] at this
   omega
end Go.Proofs.YtdcgihplkangeaaGreatDoor
/- Chunks: plain Lean: where records begin, entries cut out, pages of whole records. -/
namespace Go.Proofs.YtdcgihplkangeaaGreatDoor
set_option linter.unusedVariables false
open Go Go.RowKit Go.ChangeShapes
def cutC (f:Lf) (c:Col) (a b:Nat):Col:=⟨c.id,(c.rep.take b).drop a,(c.df.take b).drop a,(c.vals.take (many f.md (c.df.take b))).drop (many f.md (c.df.take a))⟩
theorem many_take_le (md:Int) (l:List Int) {i j:Nat} (h:i ≤ j):many md (l.take i) ≤ many md (l.take j):=by
 rw [show l.take i = (l.take j).take i by rw [List.take_take,Nat.min_eq_left h]]
 conv=>rhs;rw [← List.take_append_drop i (l.take j),many_app]
 omega
theorem many_take_le' (md:Int) (l:List Int) (i:Nat):many md (l.take i) ≤ many md l:=by
 conv=>rhs;rw [← List.take_append_drop i l,many_app]
 omega
def partAt (f:Lf) (c:Col) (a b i:Nat):Col:=cutC f c a (min i b)
theorem partAt_in {f:Lf} {c:Col} {a b i:Nat} (hl:c.rep.length = c.df.length) (hi:i < c.rep.length) (h1:a ≤ i) (h2:i < b) :
  (partAt f c a b (i + 1)).rep = (partAt f c a b i).rep ++ [c.rep[i]] ∧ (partAt f c a b (i + 1)).df = (partAt f c a b i).df ++ [c.df[i]'(by omega)]:=by
 simp only [partAt,cutC]
 rw [Nat.min_eq_left (by omega),Nat.min_eq_left (by omega),take_snocL _ _ hi,take_snocL _ _ (show i < c.df.length by omega),List.drop_append_of_le_length (by rw [List.length_take];omega),List.drop_append_of_le_length (by rw [List.length_take];omega)]
 exact ⟨rfl,rfl⟩
theorem partAt_out {f:Lf} {c:Col} {a b i:Nat} (hab:a ≤ b) (h:i < a ∨ b ≤ i):partAt f c a b (i + 1) = partAt f c a b i:=by
 rcases h with h | h
 ·have e:∀ j,j ≤ a → partAt f c a b j = ⟨c.id,[],[],[]⟩:=fun j hj=>by
   have hm:=many_take_le f.md c.df (show min j b ≤ a by omega)
   simp only [partAt,cutC]
   rw [List.drop_eq_nil_of_le (by rw [List.length_take];omega),List.drop_eq_nil_of_le (by rw [List.length_take];omega),List.drop_eq_nil_of_le (by rw [List.length_take];omega)]
  rw [e _ (by omega),e _ (by omega)]
 ·simp only [partAt]
  rw [Nat.min_eq_right (by omega),Nat.min_eq_right h]
theorem many_snocT (md:Int) (l:List Int) (i:Nat) (hi:i < l.length):many md (l.take (i + 1)) = many md (l.take i) + (if l[i] = md then 1 else 0):=by
 rw [take_snocL l i hi,many_app]
 congr 1
 unfold many
 by_cases h0:l[i] = md
 ·rw [if_pos h0,List.filter_cons_of_pos (by simpa using h0)];rfl
 ·rw [if_neg h0,List.filter_cons_of_neg (by simpa using h0)];rfl
theorem partAt_vals {f:Lf} {c:Col} {a b i:Nat} (hr:Right f c) (hi:i < c.df.length) (h1:a ≤ i) (h2:i < b) :
  (partAt f c a b (i + 1)).vals = (partAt f c a b i).vals ++ (if c.df[i] = f.md then [c.vals.getD (many f.md (c.df.take i)) ⟨0,0,⟨#[]⟩⟩] else []):=by
 simp only [partAt,cutC]
 rw [Nat.min_eq_left (by omega),Nat.min_eq_left (by omega),many_snocT _ _ _ hi]
 have hm:=many_take_le f.md c.df h1
 have hm2:=many_take_le' f.md c.df (i + 1)
 rw [many_snocT _ _ _ hi,hr.many] at hm2
 by_cases h:c.df[i] = f.md
 ·rw [if_pos h] at hm2
  rw [if_pos h,if_pos h,take_snocL _ _ (by omega),List.drop_append_of_le_length (by rw [List.length_take];omega),List.getD_eq_getElem?_getD,List.getElem?_eq_getElem (by omega)]
  rfl
 ·rw [if_neg h,if_neg h,Nat.add_zero,List.append_nil]
theorem partAt_all (f:Lf) (c:Col) (a b:Nat) (hb:b ≤ c.rep.length):partAt f c a b c.rep.length = cutC f c a b:=by simp only [partAt];rw [Nat.min_eq_right hb]
end Go.Proofs.YtdcgihplkangeaaGreatDoor
/- The walk of slices.Clone at a slice of numbers; parts of slices. -/
namespace Go.Proofs.YtdcgihplkangeaaGreatDoor
set_option maxHeartbeats 4000000
set_option linter.unusedVariables false
open Go Go.RowKit Go.ChangeShapes
def Roomy (v:Value):Prop:=∀ ad n cap,v = .slice ad n cap → n ≤ cap
theorem own_zero (w:World):(w.alloc (.cells #[] 3)).ownsRow w.heap.size 3 1 (.slice (some ⟨w.heap.size,0,none⟩) 0 0) 0 [] :=
 ⟨rfl,.inr ⟨_,0,#[],rfl,Nat.le_refl _,heap_alloc_new _ _,Nat.le_refl _,Nat.zero_le _,rfl,rfl⟩⟩
theorem roomy_own {w:World} {B n:Nat} {e:TypeId} {v:Value} {xs:List Value} (h:w.ownsRow B e 1 v n xs):Roomy v:=by
 intro ad m cap hv
 rcases h.2 with ⟨h1,h0⟩ | ⟨g,cap',cur,h1,_,_,h3,_⟩
 ·rw [h1] at hv;injection hv with _ h4 h5;omega
 ·rw [h1] at hv;injection hv with _ h4 h5;omega
theorem isInts_part {w:World} {b off n cap:Nat} {l:List Int} (h:IsInts w (.slice (some ⟨b,off,none⟩) n cap) l) {x y:Nat} (hxy:x ≤ y) (hy:y ≤ l.length) (cap':Nat) :
  IsInts w (.slice (some ⟨b,off + x,none⟩) (y - x) cap') ((l.take y).drop x):=by
 have hlen:((l.take y).drop x).length = y - x:=by rw [List.length_drop,List.length_take];omega
 rcases h with ⟨rfl,_⟩ | ⟨b',off',cap'',e,hlt,hc⟩
 ·simp only [List.length_nil] at hy
  left
  refine ⟨by simp,some ⟨b,off + x,none⟩,cap',?_⟩
  rw [show y - x = 0 by omega]
 ·injection e with e1 e2 e3
  injection e1 with e1
  injection e1 with e4 e5
  subst e4 e5
  refine .inr ⟨b,off + x,cap',by rw [hlen],hlt,fun j v hj=>?_⟩
  rw [List.getElem?_drop] at hj
  have hj2:j < y - x:=by
   have:=(List.getElem?_eq_some_iff.1 hj).1
   rw [List.length_take] at this
   omega
  rw [List.getElem?_take_of_lt (by omega)] at hj
  rw [Nat.add_assoc]
  exact hc (x + j) v hj
theorem isInts_cutV {w:World} {a1:Option Addr} {q1:Nat} {l:List Int} (h:IsInts w (.slice a1 l.length q1) l) (hq:l.length ≤ q1) {x y:Nat} (hxy:x ≤ y) (hy:y ≤ l.length) :
  IsInts w (.slice (if q1 = x then a1 else Option.map (fun z=>z.add x) a1) (y - x) (q1 - x)) ((l.take y).drop x):=by
 by_cases h0:y - x = 0
 ·left
  refine ⟨List.drop_eq_nil_of_le (by rw [List.length_take];omega),?_⟩
  rw [h0]
  exact ⟨_,_,rfl⟩
 ·obtain ⟨b,off,rfl,-,hlt,hc⟩:=h.at (by omega)
  rw [if_neg (by omega)]
  simp only [Option.map_some]
  rw [Go.WideShapes.add_plain]
  exact isInts_part (n:=l.length) (cap:=q1) h hxy hy _
set_option maxRecDepth 100000 in
theorem clone_any (v:Value) (L:List Int) (w:World) (hv:IsInts w v L) (h8:L.length ≤ 1000000) :
  Calls Tryz.prog 50 #[v] w fun e w'=>(∃ d k,e = .returned (.slice d L.length k) ∧ w'.ownsRow w.heap.size 3 1 (.slice d L.length k) L.length (L.map iV) ∧ L.length ≤ k) ∧ Below w.heap.size w w':=by
 obtain ⟨ad,cap,rfl⟩:=hv.form
 have HV:=Lib.hid hv
 cases ad with
 | none =>
  have h0:L = []:=by
   rcases hv with ⟨h,_⟩ | ⟨b,off,c',e,_⟩
   ·exact h
   ·injection e with e1;cases e1
  subst h0
  clear hv
  have qT:∀ (w:World) (a:Option Addr) (n c n' c':Nat),(binOp .eql 22 (.slice a n c) (.slice none n' c')).run Tryz.prog w = .ok (.bool a.isNone) w:=fun w a n c n' c'=>Lib.run_eql_slice_nil w _ _ a n c n' c' Tryz.underlying22
  go_enter Tryz.func50,Tryz.ntmps50
  go_wp2_with fail
  go_ret
  exact ⟨⟨none,0,rfl,World.ownsRow_nil _ _ _ _,Nat.le_refl _⟩,Below.refl _ _⟩
 | some a =>
  clear hv
  have qT:∀ (w:World) (a:Option Addr) (n c n' c':Nat),(binOp .eql 22 (.slice a n c) (.slice none n' c')).run Tryz.prog w = .ok (.bool a.isNone) w:=fun w a n c n' c'=>Lib.run_eql_slice_nil w _ _ a n c n' c' Tryz.underlying22
  go_enter Tryz.func50,Tryz.ntmps50
  go_wp2_with (at_builtin;refine wpList_appI rfl _ _ rfl w.heap.size (.slice (some ⟨w.heap.size,0,none⟩) 0 0) [] rfl (own_zero w) (.slice (some a) L.length cap) L rfl (HV.out.below ((Below.refl _ _).alloc (Nat.le_refl _) _) (Nat.le_refl _)) (by simp;omega) (by simp) ?_;intro v' w2 ho hg hf;obtain ⟨d9,k9,e9⟩:=hf;subst e9;have HO:=Lib.hid ho;have HG:=Lib.hid hg;clear ho hg)
  go_ret
  refine ⟨⟨d9,k9,ret_of (by simp),by simpa using HO.out,by have:=roomy_own HO.out _ _ _ rfl;simpa using this⟩,?_⟩
  exact ((Below.refl w.heap.size w).alloc (Nat.le_refl _) _).grown HG.out (by simp) (fun k hk=>by simp [Value.ownBlock] at hk;omega)
end Go.Proofs.YtdcgihplkangeaaGreatDoor
