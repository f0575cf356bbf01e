/- Merged texts: CErr, StR. -/
import Derived.Test.YtkmhmnffbgedgaaDoorMOw
import Derived.Test.YtkmhmnffbgedgaaDoorMRef
import Derived.Test.YtkmhmnffbgedgaaDoorMHow
import Derived.BigQuiet
import Derived.Deep.DeepCutAuto
import Derived.Deep.CutRange
import Derived.Test.YtkmhmnffbgedgaaDoorSameN
import Derived.Test.YtkmhmnffbgedgaaDoorSamV
import Derived.Test.YtkmhmnffbgedgaaDoorColC
import Derived.Test.YtkmhmnffbgedgaaDoorMRow
import Derived.Test.YtkmhmnffbgedgaaDoorMPp
import Derived.Lib.SliceRun
import Derived.Test.YtkmhmnffbgedgaaDoorRegE
import Derived.Deep.RegionHeld3
import Derived.Test.YtkmhmnffbgedgaaDoorMCol
import Derived.Test.YtkmhmnffbgedgaaDoorMEnc
import Derived.Test.YtkmhmnffbgedgaaDoorSh2
import Derived.Test.YtkmhmnffbgedgaaDoorTa0
import Derived.Test.YtkmhmnffbgedgaaDoorTv3
/- The walk of the document's ColumnError. -/
namespace Go.Proofs.YtkmhmnffbgedgaaDoor
set_option linter.unusedVariables false
open Go Go.RowKit Go.ChangeShapes
end Go.Proofs.YtkmhmnffbgedgaaDoor
/- The walk of the document's StatsOf. -/
namespace Go.Proofs.YtkmhmnffbgedgaaDoor
set_option linter.unusedVariables false
open Go Go.RowKit Go.ChangeShapes
end Go.Proofs.YtkmhmnffbgedgaaDoor
/- The walk of the document's SameColumn at two columns that are the same (without the packages of bits). -/
namespace Go.Proofs.YtkmhmnffbgedgaaDoor
set_option maxHeartbeats 4000000
set_option linter.unusedVariables false
open Go Go.RowKit Go.ChangeShapes
set_option maxRecDepth 100000 in
theorem sameColN (c:Col) (v u:Value) (w:World) (hv:IsCol w v c) (hu:IsCol w u c) (h1:c.rep.length ≤ 1000000) (h2:c.df.length ≤ 1000000) (h3:c.vals.length ≤ maxLen) :
  Calls Tryd.prog 13 #[v,u] w fun e w'=>e = .returned (.bool true) ∧ Below w.heap.size w w':=by
 obtain ⟨a,b,d,rfl,ha,hb,hd⟩:=hv
 obtain ⟨a',b',d',rfl,ha',hb',hd'⟩:=hu
 have H1:=Lib.hid (fun (w1:World) (h:Below w.heap.size w w1)=>sameInts_same a a' c.rep w1 (ha.below h (Nat.le_refl _)) (ha'.below h (Nat.le_refl _)) h1)
 have H2:=Lib.hid (fun (w1:World) (h:Below w.heap.size w w1)=>sameInts_same b b' c.df w1 (hb.below h (Nat.le_refl _)) (hb'.below h (Nat.le_refl _)) h2)
 have H3:=Lib.hid (fun (w1:World) (h:Below w.heap.size w w1)=>sameValues_any d d' c.vals c.vals w1 (hd.below h (Nat.le_refl _)) (hd'.below h (Nat.le_refl _)) h3 h3)
 have hs:sameB c.vals c.vals = true:=(sameB_iff _ _).2 rfl
 rw [hs] at H3
 clear ha hb hd ha' hb' hd' h1 h2 h3 hs
 unfold colA
 go_enter Tryd.func13,Tryd.ntmps13
 go_upto_region 1 with fail
 obtain ⟨rA,rB,hbw,hz⟩:=rows2 (w:=w) (A:=.cells #[.int .i64 c.id,a,b,d] 32) (B:=.cells #[.int .i64 c.id,a',b',d'] 32) (Below.refl _ _)
 have RA:=Lib.hid rA;have RB:=Lib.hid rB;have Hbw:=Lib.hid hbw
 clear rA rB hbw hz
 generalize ((w.alloc (.cells #[.int .i64 c.id,a,b,d] 32)).alloc (.cells #[.int .i64 c.id,a',b',d'] 32)) = w0 at *
 have cA:=rowc RA.out;have fA:=rowf RA.out;have cB:=rowc RB.out;have fB:=rowf RB.out
 go_wp2_with fail
 refine (H1.out _ Hbw.out).mono ?_;rintro e w1 ⟨rfl,hb1⟩
 clear cA fA cB fB
 replace RA:=Lib.hid (row_keep hb1 RA.out);replace RB:=Lib.hid (row_keep hb1 RB.out);replace Hbw:=Lib.hid (Hbw.out.trans (hb1.mono Hbw.out.size))
 clear hb1
 have cA:=rowc RA.out;have fA:=rowf RA.out;have cB:=rowc RB.out;have fB:=rowf RB.out
 go_wp2_with fail
 refine (H2.out _ Hbw.out).mono ?_;rintro e w2 ⟨rfl,hb1⟩
 clear cA fA cB fB
 replace RA:=Lib.hid (row_keep hb1 RA.out);replace RB:=Lib.hid (row_keep hb1 RB.out);replace Hbw:=Lib.hid (Hbw.out.trans (hb1.mono Hbw.out.size))
 clear hb1
 have cA:=rowc RA.out;have fA:=rowf RA.out;have cB:=rowc RB.out;have fB:=rowf RB.out
 go_wp2_with fail
 refine (H3.out _ Hbw.out).mono ?_;rintro e w3 ⟨rfl,hb1⟩
 replace Hbw:=Lib.hid (Hbw.out.trans (hb1.mono Hbw.out.size))
 clear hb1
 go_wp2_with fail
 go_ret
 exact ⟨rfl,Hbw.out⟩
end Go.Proofs.YtkmhmnffbgedgaaDoor
/- Chunks: plain Lean: where records begin. -/
namespace Go.Proofs.YtkmhmnffbgedgaaDoor
set_option linter.unusedVariables false
open Go Go.RowKit Go.ChangeShapes
def begsFrom (k:Nat):List Int → List Nat
 | []=>[]
 | x :: l=>if x = 0 then k :: begsFrom (k + 1) l else begsFrom (k + 1) l
def begs (l:List Int):List Nat:=begsFrom 0 l
def marksOf (l:List Int):List Nat:=begs l ++ [l.length]
def countC (l:List Int):Nat:=(l.filter fun x=>x == 0).length
theorem begsFrom_len:∀ (l:List Int) (k:Nat),(begsFrom k l).length = countC l
 | [],k=>rfl
 | x :: l,k=>by
  unfold begsFrom countC
  by_cases h:x = 0
  ·rw [if_pos h,List.length_cons,begsFrom_len l (k + 1),List.filter_cons_of_pos (by simpa using h)];rfl
  ·rw [if_neg h,begsFrom_len l (k + 1),List.filter_cons_of_neg (by simpa using h)];rfl
theorem begs_len (l:List Int):(begs l).length = countC l:=begsFrom_len l 0
theorem marksOf_len (l:List Int):(marksOf l).length = countC l + 1:=by rw [marksOf,List.length_append,begs_len];rfl
theorem begsFrom_snoc:∀ (l:List Int) (k:Nat) (x:Int),begsFrom k (l ++ [x]) = begsFrom k l ++ (if x = 0 then [k + l.length] else [])
 | [],k,x=>by simp [begsFrom]
 | y :: l,k,x=>by
  simp only [List.cons_append,begsFrom,begsFrom_snoc l (k + 1) x,List.length_cons]
  rw [show k + 1 + l.length = k + (l.length + 1) by omega]
  by_cases h:y = 0
  ·rw [if_pos h,if_pos h,List.cons_append]
  ·rw [if_neg h,if_neg h]
theorem countC_app (a b:List Int):countC (a ++ b) = countC a + countC b:=by unfold countC;rw [List.filter_append,List.length_append]
theorem take_snocL {α:Type} (l:List α) (i:Nat) (h:i < l.length):l.take (i + 1) = l.take i ++ [l[i]]:=by
 rw [List.take_add_one,List.getElem?_eq_getElem h];rfl
theorem begs_take (l:List Int) (i:Nat) (h:i < l.length):begs (l.take (i + 1)) = begs (l.take i) ++ (if l[i] = 0 then [i] else []):=by
 unfold begs
 rw [take_snocL l i h,begsFrom_snoc,Nat.zero_add,List.length_take,Nat.min_eq_left (by omega)]
theorem countC_take (l:List Int) (i:Nat) (h:i < l.length):countC (l.take (i + 1)) = countC (l.take i) + (if l[i] = 0 then 1 else 0):=by
 rw [take_snocL l i h,countC_app]
 congr 1
 unfold countC
 by_cases h0:l[i] = 0
 ·rw [if_pos h0,List.filter_cons_of_pos (by simpa using h0)];rfl
 ·rw [if_neg h0,List.filter_cons_of_neg (by simpa using h0)];rfl
theorem begsFrom_at:∀ (l:List Int) (k m p:Nat),(begsFrom k l ++ [k + l.length])[m]? = some p → k ≤ p ∧ p ≤ k + l.length ∧ ∀ i,i < l.length → (m < countC (l.take (i + 1)) ↔ p ≤ k + i)
 | [],k,m,p,h=>by
  cases m with
  | zero=>simp [begsFrom] at h;subst h;simp
  | succ m=>simp [begsFrom] at h
 | x :: l,k,m,p,h=>by
  have hk:k + (x :: l).length = k + 1 + l.length:=by rw [List.length_cons];omega
  rw [hk] at h ⊢
  unfold begsFrom at h
  by_cases h0:x = 0
  ·rw [if_pos h0,List.cons_append] at h
   cases m with
   | zero =>
    simp only [List.getElem?_cons_zero,Option.some.injEq] at h
    subst h
    refine ⟨Nat.le_refl _,by omega,fun i hi=>⟨fun _=>by omega,fun _=>?_⟩⟩
    rw [List.take_succ_cons]
    unfold countC
    rw [List.filter_cons_of_pos (by simpa using h0),List.length_cons]
    omega
   | succ m =>
    rw [List.getElem?_cons_succ] at h
    obtain ⟨h1,h2,h3⟩:=begsFrom_at l (k + 1) m p h
    refine ⟨by omega,h2,fun i hi=>?_⟩
    cases i with
    | zero =>
     constructor
     ·intro h;exfalso
      rw [List.take_succ_cons,List.take_zero] at h
      unfold countC at h
      rw [List.filter_cons_of_pos (by simpa using h0)] at h
      simp at h
     ·intro h;omega
    | succ i =>
     have:=h3 i (by simpa using hi)
     rw [List.take_succ_cons]
     unfold countC at this ⊢
     rw [List.filter_cons_of_pos (by simpa using h0),List.length_cons]
     constructor
     ·intro h;have:=this.1 (by omega);omega
     ·intro h;have:=this.2 (by omega);omega
  ·rw [if_neg h0] at h
   obtain ⟨h1,h2,h3⟩:=begsFrom_at l (k + 1) m p h
   refine ⟨by omega,h2,fun i hi=>?_⟩
   cases i with
   | zero =>
    constructor
    ·intro h;exfalso
     rw [List.take_succ_cons,List.take_zero] at h
     unfold countC at h
     rw [List.filter_cons_of_neg (by simpa using h0)] at h
     simp at h
    ·intro h;omega
   | succ i =>
    have:=h3 i (by simpa using hi)
    rw [List.take_succ_cons]
    unfold countC at this ⊢
    rw [List.filter_cons_of_neg (by simpa using h0)]
    constructor
    ·intro h;have:=this.1 h;omega
    ·intro h;exact this.2 (by omega)
theorem marksOf_at {l:List Int} {m p:Nat} (h:(marksOf l)[m]? = some p):p ≤ l.length ∧ ∀ i,i < l.length → (m < countC (l.take (i + 1)) ↔ p ≤ i):=by
 have:=begsFrom_at l 0 m p (by rw [Nat.zero_add];exact h)
 simp only [Nat.zero_add] at this
 exact ⟨this.2.1,this.2.2⟩
theorem marksOf_mono {l:List Int} {m n p q:Nat} (hp:(marksOf l)[m]? = some p) (hq:(marksOf l)[n]? = some q) (h:m < n):p < q:=by
 obtain ⟨p1,p2⟩:=marksOf_at hp
 obtain ⟨q1,q2⟩:=marksOf_at hq
 have hn:n < (marksOf l).length:=(List.getElem?_eq_some_iff.1 hq).1
 rw [marksOf_len] at hn
 by_cases hpl:p < l.length
 ·by_cases hlt:p < q
  ·exact hlt
  ·exfalso
   have h1:=(q2 p hpl).2 (by omega)
   -- entry p lies in record n or behind;it begins record m
   by_cases h0:p = 0
   ·subst h0
    have:countC (l.take 1) ≤ 1:=by
     unfold countC
     exact Nat.le_trans (List.length_filter_le _ _) (by simp;omega)
    simp only [Nat.zero_add] at h1
    omega
   ·have h2:¬ m < countC (l.take (p - 1 + 1)):=fun hh=>by have:=(p2 (p - 1) (by omega)).1 hh;omega
    rw [show p - 1 + 1 = p by omega] at h2
    rw [countC_take l p hpl] at h1
    split at h1 <;> omega
 ·have hpe:p = l.length:=by omega
  have hm:∀ i,i < l.length → ¬ m < countC (l.take (i + 1)):=fun i hi hh=>by have:=(p2 i hi).1 hh;omega
  exfalso
  by_cases h0:l.length = 0
  ·have:l = []:=List.length_eq_zero_iff.1 h0
   subst this
   have:countC ([]:List Int) = 0:=rfl
   omega
  ·have:=hm (l.length - 1) (by omega)
   rw [show l.length - 1 + 1 = l.length by omega,List.take_length] at this
   omega
theorem marksOf_zero {l:List Int} {m p:Nat} (hp:(marksOf l)[m]? = some p) (h:m < countC l):∃ hpl:p < l.length,l[p] = 0:=by
 obtain ⟨p1,p2⟩:=marksOf_at hp
 have hpl:p < l.length:=by
  by_cases hh:p < l.length
  ·exact hh
  ·exfalso
   by_cases h0:l.length = 0
   ·have:l = []:=List.length_eq_zero_iff.1 h0
    subst this
    have:countC ([]:List Int) = 0:=rfl
    omega
   ·have:=(p2 (l.length - 1) (by omega)).1 (by rw [show l.length - 1 + 1 = l.length by omega,List.take_length];exact h)
    omega
 refine ⟨hpl,?_⟩
 have h1:=(p2 p hpl).2 (Nat.le_refl _)
 rw [countC_take l p hpl] at h1
 by_cases h0:l[p] = 0
 ·exact h0
 ·exfalso
  rw [if_neg h0] at h1
  by_cases hp0:p = 0
  ·subst hp0
   have:countC (l.take 0) = 0:=rfl
   omega
  ·have:=(p2 (p - 1) (by omega)).1 (by rw [show p - 1 + 1 = p by omega];omega)
   omega
end Go.Proofs.YtkmhmnffbgedgaaDoor
/- Chunks: plain Lean: where records begin, entries cut out, pages of whole records. -/
namespace Go.Proofs.YtkmhmnffbgedgaaDoor
set_option linter.unusedVariables false
open Go Go.RowKit Go.ChangeShapes
def cutC (f:Lf) (c:Col) (a b:Nat):Col:=⟨c.id,(c.rep.take b).drop a,(c.df.take b).drop a,(c.vals.take (many f.md (c.df.take b))).drop (many f.md (c.df.take a))⟩
theorem levelsB_drop (f:Lf):∀ (r d:List Int) (n:Nat),levelsB f r d = true → levelsB f (r.drop n) (d.drop n) = true
 | r,d,0,h=>h
 | [],d,n + 1,h=>by simp [levelsB]
 | x :: r,[],n + 1,h=>by simp [levelsB]
 | x :: r,y :: d,n + 1,h=>by
  simp only [levelsB,Bool.and_eq_true] at h
  exact levelsB_drop f r d n h.2
theorem levelsB_take (f:Lf):∀ (r d:List Int) (n:Nat),levelsB f r d = true → levelsB f (r.take n) (d.take n) = true
 | r,d,0,h=>by simp [levelsB]
 | [],d,n + 1,h=>by simp [levelsB]
 | x :: r,[],n + 1,h=>by simp [levelsB]
 | x :: r,y :: d,n + 1,h=>by
  simp only [levelsB,Bool.and_eq_true,List.take_succ_cons] at h ⊢
  exact ⟨h.1,levelsB_take f r d n h.2⟩
theorem many_take_le (md:Int) (l:List Int) {i j:Nat} (h:i ≤ j):many md (l.take i) ≤ many md (l.take j):=by
 rw [show l.take i = (l.take j).take i by rw [List.take_take,Nat.min_eq_left h]]
 conv=>rhs;rw [← List.take_append_drop i (l.take j),many_app]
 omega
theorem many_take_le' (md:Int) (l:List Int) (i:Nat):many md (l.take i) ≤ many md l:=by
 conv=>rhs;rw [← List.take_append_drop i l,many_app]
 omega
theorem many_take_drop (md:Int) (l:List Int) (a b:Nat) (h:a ≤ b):many md ((l.take b).drop a) = many md (l.take b) - many md (l.take a):=by
 have h1:many md (l.take b) = many md ((l.take b).take a) + many md ((l.take b).drop a):=by rw [← many_app,List.take_append_drop]
 rw [List.take_take,Nat.min_eq_left h] at h1
 omega
theorem cutC_right {f:Lf} {c:Col} (h:Right f c) {a b:Nat} (hab:a ≤ b):Right f (cutC f c a b) :=
 ⟨h.k1,h.k5,h.r0,h.r40,h.d0,h.d40,h.id,by simp [cutC,h.len],levelsB_drop f _ _ _ (levelsB_take f _ _ _ h.lev),by
  have h1:=many_take_le' f.md c.df b
  have h2:=many_take_le f.md c.df hab
  simp only [cutC]
  rw [many_take_drop _ _ _ _ hab,List.length_drop,List.length_take,← h.many]
  omega,fun x hx=>h.vals x (List.mem_of_mem_take (List.mem_of_mem_drop hx))⟩
theorem cutC_nil {f:Lf} {c:Col} (h:Right f c) {m n a b:Nat} (ha:(marksOf c.rep)[m]? = some a) (hb:(marksOf c.rep)[n]? = some b) (hmn:m < n):colErr f (cutC f c a b) false = .nil ∧ (cutC f c a b).rep ≠ [] ∧ (cutC f c a b).rep.length = b - a:=by
 have hlt:=marksOf_mono ha hb hmn
 have hbl:=(marksOf_at hb).1
 have hn:n < (marksOf c.rep).length:=(List.getElem?_eq_some_iff.1 hb).1
 rw [marksOf_len] at hn
 obtain ⟨hal,h0⟩:=marksOf_zero ha (by omega)
 have hlen:(cutC f c a b).rep.length = b - a:=by simp only [cutC,List.length_drop,List.length_take];omega
 have hhd:(cutC f c a b).rep.head? = some c.rep[a]:=by
  simp only [cutC]
  rw [List.head?_drop,List.getElem?_take_of_lt hlt,List.getElem?_eq_getElem hal]
 refine ⟨(cutC_right h (Nat.le_of_lt hlt)).nil (by rw [hhd,Option.getD_some,h0];rfl),?_,hlen⟩
 intro e
 rw [e] at hlen
 simp at hlen
 omega
def partAt (f:Lf) (c:Col) (a b i:Nat):Col:=cutC f c a (min i b)
theorem partAt_out {f:Lf} {c:Col} {a b i:Nat} (hab:a ≤ b) (h:i < a ∨ b ≤ i):partAt f c a b (i + 1) = partAt f c a b i:=by
 rcases h with h | h
 ·have e:∀ j,j ≤ a → partAt f c a b j = ⟨c.id,[],[],[]⟩:=fun j hj=>by
   have hm:=many_take_le f.md c.df (show min j b ≤ a by omega)
   simp only [partAt,cutC]
   rw [List.drop_eq_nil_of_le (by rw [List.length_take];omega),List.drop_eq_nil_of_le (by rw [List.length_take];omega),List.drop_eq_nil_of_le (by rw [List.length_take];omega)]
  rw [e _ (by omega),e _ (by omega)]
 ·simp only [partAt]
  rw [Nat.min_eq_right (by omega),Nat.min_eq_right h]
theorem many_snocT (md:Int) (l:List Int) (i:Nat) (hi:i < l.length):many md (l.take (i + 1)) = many md (l.take i) + (if l[i] = md then 1 else 0):=by
 rw [take_snocL l i hi,many_app]
 congr 1
 unfold many
 by_cases h0:l[i] = md
 ·rw [if_pos h0,List.filter_cons_of_pos (by simpa using h0)];rfl
 ·rw [if_neg h0,List.filter_cons_of_neg (by simpa using h0)];rfl
theorem partAt_vals {f:Lf} {c:Col} {a b i:Nat} (hr:Right f c) (hi:i < c.df.length) (h1:a ≤ i) (h2:i < b) :
  (partAt f c a b (i + 1)).vals = (partAt f c a b i).vals ++ (if c.df[i] = f.md then [c.vals.getD (many f.md (c.df.take i)) ⟨0,0,⟨#[]⟩⟩] else []):=by
 simp only [partAt,cutC]
 rw [Nat.min_eq_left (by omega),Nat.min_eq_left (by omega),many_snocT _ _ _ hi]
 have hm:=many_take_le f.md c.df h1
 have hm2:=many_take_le' f.md c.df (i + 1)
 rw [many_snocT _ _ _ hi,hr.many] at hm2
 by_cases h:c.df[i] = f.md
 ·rw [if_pos h] at hm2
  rw [if_pos h,if_pos h,take_snocL _ _ (by omega),List.drop_append_of_le_length (by rw [List.length_take];omega),List.getD_eq_getElem?_getD,List.getElem?_eq_getElem (by omega)]
  rfl
 ·rw [if_neg h,if_neg h,Nat.add_zero,List.append_nil]
end Go.Proofs.YtkmhmnffbgedgaaDoor
/- The walk of slices.Clone at a slice of numbers; parts of slices. -/
namespace Go.Proofs.YtkmhmnffbgedgaaDoor
set_option maxHeartbeats 4000000
set_option linter.unusedVariables false
open Go Go.RowKit Go.ChangeShapes
def Roomy (v:Value):Prop:=∀ ad n cap,v = .slice ad n cap → n ≤ cap
theorem own_zero (w:World):(w.alloc (.cells #[] 3)).ownsRow w.heap.size 3 1 (.slice (some ⟨w.heap.size,0,none⟩) 0 0) 0 [] :=
 ⟨rfl,.inr ⟨_,0,#[],rfl,Nat.le_refl _,heap_alloc_new _ _,Nat.le_refl _,Nat.zero_le _,rfl,rfl⟩⟩
theorem roomy_own {w:World} {B n:Nat} {e:TypeId} {v:Value} {xs:List Value} (h:w.ownsRow B e 1 v n xs):Roomy v:=by
 intro ad m cap hv
 rcases h.2 with ⟨h1,h0⟩ | ⟨g,cap',cur,h1,_,_,h3,_⟩
 ·rw [h1] at hv;injection hv with _ h4 h5;omega
 ·rw [h1] at hv;injection hv with _ h4 h5;omega
theorem isInts_part {w:World} {b off n cap:Nat} {l:List Int} (h:IsInts w (.slice (some ⟨b,off,none⟩) n cap) l) {x y:Nat} (hxy:x ≤ y) (hy:y ≤ l.length) (cap':Nat) :
  IsInts w (.slice (some ⟨b,off + x,none⟩) (y - x) cap') ((l.take y).drop x):=by
 have hlen:((l.take y).drop x).length = y - x:=by rw [List.length_drop,List.length_take];omega
 rcases h with ⟨rfl,_⟩ | ⟨b',off',cap'',e,hlt,hc⟩
 ·simp only [List.length_nil] at hy
  left
  refine ⟨by simp,some ⟨b,off + x,none⟩,cap',?_⟩
  rw [show y - x = 0 by omega]
 ·injection e with e1 e2 e3
  injection e1 with e1
  injection e1 with e4 e5
  subst e4 e5
  refine .inr ⟨b,off + x,cap',by rw [hlen],hlt,fun j v hj=>?_⟩
  rw [List.getElem?_drop] at hj
  have hj2:j < y - x:=by
   have:=(List.getElem?_eq_some_iff.1 hj).1
   rw [List.length_take] at this
   omega
  rw [List.getElem?_take_of_lt (by omega)] at hj
  rw [Nat.add_assoc]
  exact hc (x + j) v hj
theorem isInts_cutV {w:World} {a1:Option Addr} {q1:Nat} {l:List Int} (h:IsInts w (.slice a1 l.length q1) l) (hq:l.length ≤ q1) {x y:Nat} (hxy:x ≤ y) (hy:y ≤ l.length) :
  IsInts w (.slice (if q1 = x then a1 else Option.map (fun z=>z.add x) a1) (y - x) (q1 - x)) ((l.take y).drop x):=by
 by_cases h0:y - x = 0
 ·left
  refine ⟨List.drop_eq_nil_of_le (by rw [List.length_take];omega),?_⟩
  rw [h0]
  exact ⟨_,_,rfl⟩
 ·obtain ⟨b,off,rfl,-,hlt,hc⟩:=h.at (by omega)
  rw [if_neg (by omega)]
  simp only [Option.map_some]
  rw [Go.WideShapes.add_plain]
  exact isInts_part (n:=l.length) (cap:=q1) h hxy hy _
set_option maxRecDepth 100000 in
theorem clone_any (v:Value) (L:List Int) (w:World) (hv:IsInts w v L) (h8:L.length ≤ 1000000) :
  Calls Tryd.prog 58 #[v] w fun e w'=>(∃ d k,e = .returned (.slice d L.length k) ∧ w'.ownsRow w.heap.size 3 1 (.slice d L.length k) L.length (L.map iV) ∧ L.length ≤ k) ∧ Below w.heap.size w w':=by
 obtain ⟨ad,cap,rfl⟩:=hv.form
 have HV:=Lib.hid hv
 cases ad with
 | none =>
  have h0:L = []:=by
   rcases hv with ⟨h,_⟩ | ⟨b,off,c',e,_⟩
   ·exact h
   ·injection e with e1;cases e1
  subst h0
  clear hv
  have qT:∀ (w:World) (a:Option Addr) (n c n' c':Nat),(binOp .eql 22 (.slice a n c) (.slice none n' c')).run Tryd.prog w = .ok (.bool a.isNone) w:=fun w a n c n' c'=>Lib.run_eql_slice_nil w _ _ a n c n' c' Tryd.underlying22
  go_enter Tryd.func58,Tryd.ntmps58
  go_wp2_with fail
  go_ret
  exact ⟨⟨none,0,rfl,World.ownsRow_nil _ _ _ _,Nat.le_refl _⟩,Below.refl _ _⟩
 | some a =>
  clear hv
  have qT:∀ (w:World) (a:Option Addr) (n c n' c':Nat),(binOp .eql 22 (.slice a n c) (.slice none n' c')).run Tryd.prog w = .ok (.bool a.isNone) w:=fun w a n c n' c'=>Lib.run_eql_slice_nil w _ _ a n c n' c' Tryd.underlying22
  go_enter Tryd.func58,Tryd.ntmps58
  go_wp2_with (at_builtin;refine wpList_appI rfl _ _ rfl w.heap.size (.slice (some ⟨w.heap.size,0,none⟩) 0 0) [] rfl (own_zero w) (.slice (some a) L.length cap) L rfl (HV.out.below ((Below.refl _ _).alloc (Nat.le_refl _) _) (Nat.le_refl _)) (by simp;omega) (by simp) ?_;intro v' w2 ho hg hf;obtain ⟨d9,k9,e9⟩:=hf;subst e9;have HO:=Lib.hid ho;have HG:=Lib.hid hg;clear ho hg)
  go_ret
  refine ⟨⟨d9,k9,ret_of (by simp),by simpa using HO.out,by have:=roomy_own HO.out _ _ _ rfl;simpa using this⟩,?_⟩
  exact ((Below.refl w.heap.size w).alloc (Nat.le_refl _) _).grown HG.out (by simp) (fun k hk=>by simp [Value.ownBlock] at hk;omega)
end Go.Proofs.YtkmhmnffbgedgaaDoor
/- The walk of shred.Cut. -/
namespace Go.Proofs.YtkmhmnffbgedgaaDoor
set_option maxHeartbeats 16000000
set_option linter.unusedVariables false
set_option linter.unusedSimpArgs false
open Go Go.RowKit Go.ChangeShapes
theorem own_keep6 {w w':World} {B n s:Nat} {e:TypeId} {v:Value} {xs:List Value} (h:w.ownsRow B e s v n xs) (hk:∀ q,v.ownBlock = some q → w'.heap[q]? = w.heap[q]?):w'.ownsRow B e s v n xs:=by
 refine ⟨h.1,?_⟩
 rcases h.2 with h2 | ⟨g,cap,cur,h1,h2,h3,h4⟩
 ·exact .inl h2
 ·exact .inr ⟨g,cap,cur,h1,h2,(hk g (by rw [h1];rfl)).trans h3,h4⟩
theorem own_base6 {w:World} {B B' n s:Nat} {e:TypeId} {v:Value} {xs:List Value} (h:w.ownsRow B e s v n xs) (hB:B' ≤ B):w.ownsRow B' e s v n xs:=by
 refine ⟨h.1,?_⟩
 rcases h.2 with h0 | ⟨g,cap,cur,hv,h1,h2,h3⟩
 ·exact .inl h0
 ·exact .inr ⟨g,cap,cur,hv,Nat.le_trans hB h1,h2,h3⟩
theorem own_cap6 {w:World} {B n s:Nat} {e:TypeId} {v:Value} {xs:List Value} (h:w.ownsRow B e s v n xs):∃ m b c,v = .slice b m c:=by
 rcases h.2 with ⟨h,_⟩ | ⟨g,cap,cur,h,_⟩
 ·exact ⟨_,_,_,h⟩
 ·exact ⟨_,_,_,h⟩
theorem cell_in6 {w w':World} {B b o:Nat} {v:Value} (hb:Below B w w') (hlt:b < B) (h:w.cell? ⟨b,o,none⟩ = some v):w'.cell? ⟨b,o,none⟩ = some v :=
 (hb.cell (p:=⟨b,o,none⟩) hlt).trans h
theorem cell_alloc6 {w:World} {b o:Nat} {v:Value} (h:w.cell? ⟨b,o,none⟩ = some v) (x:Obj):(w.alloc x).cell? ⟨b,o,none⟩ = some v :=
 cell_in6 ((Below.refl w.heap.size w).alloc (Nat.le_refl _) x) (block_lt_of_cell h) h
theorem own_lt6 {w:World} {B n s:Nat} {e:TypeId} {v:Value} {xs:List Value} (h:w.ownsRow B e s v n xs) {g:Nat} (hg:w.heap.size ≤ g):∀ q,v.ownBlock = some q → q ≠ g:=fun q hq=>by have:=(h.lt q hq).2;omega
theorem own_ge6 {w:World} {B n s:Nat} {e:TypeId} {v:Value} {xs:List Value} (h:w.ownsRow B e s v n xs) {g:Nat} (hg:g < B):∀ q,v.ownBlock = some q → q ≠ g:=fun q hq=>by have:=(h.lt q hq).1;omega
theorem own_new6 {w w1:World} {A:Obj} {n s:Nat} {e:TypeId} {v:Value} {xs:List Value} (hb:Below (w.alloc A).heap.size (w.alloc A) w1) (h:w1.ownsRow (w.alloc A).heap.size e s v n xs):∀ q,v.ownBlock = some q → q ≠ w.heap.size:=own_ge6 h (by simp)
theorem own_new6d {w w1:World} {A:Obj} {n s:Nat} {e:TypeId} {v:Value} {xs:List Value} (hb:Below (w.alloc A).drew.heap.size (w.alloc A).drew w1) (h:w1.ownsRow (w.alloc A).drew.heap.size e s v n xs):∀ q,v.ownBlock = some q → q ≠ w.heap.size:=own_ge6 h (by simp)
def CutOwn (B:Nat) (w:World) (u:Value) (c:Col):Prop:=∃ p q d,u = .agg #[.int .i64 c.id,p,q,d] ∧ w.ownsRow B 3 1 p c.rep.length (c.rep.map iV) ∧ w.ownsRow B 3 1 q c.df.length (c.df.map iV) ∧ w.ownsRow B 61 3 d c.vals.length (c.vals.flatMap valCells)
set_option maxRecDepth 100000 in
theorem cut_anyL (f:Lf) (c:Col) (x0 x1:Nat) (vf vc:Value) (w:World) (hf:IsLf w vf f) (hc:IsCol w vc c) (hroom:RoomCol vc) (hr:Right f c) (hl:c.rep.length ≤ 100000) (h01:x0 ≤ x1) (h1l:x1 ≤ c.rep.length) :
    Calls Tryd.prog 43 #[vf,vc,.int .i64 (x0:Nat),.int .i64 (x1:Nat)] w fun e w'=>(∃ u,e = .returned u ∧ IsCol w' u (cutC f c x0 x1) ∧ RoomCol u ∧ CutOwn w.heap.size w' u (cutC f c x0 x1)) ∧ Below w.heap.size w w':=by
  obtain ⟨p,rfl,hp⟩:=hf
  obtain ⟨a,b,d,rfl,ha,hb,hd⟩:=hc
  have HA:=Lib.hid ha;have HB:=Lib.hid hb;have HD:=Lib.hid hd
  obtain ⟨a1,q1,e1⟩:=ha.form
  obtain ⟨a2,q2,e2⟩:=hb.form
  obtain ⟨a3,q3,e3⟩:=hd.form
  subst e1 e2 e3
  have hlen:=hr.len
  have hq1:c.rep.length ≤ q1:=(hroom _ _ _ _ rfl).1 _ _ _ rfl
  have hq2:c.df.length ≤ q2:=(hroom _ _ _ _ rfl).2 _ _ _ rfl
  have hxq1:x1 ≤ q1:=by omega
  have hxq2:x1 ≤ q2:=by omega
  have Hr:=Lib.hid hr;have Hlen:=Lib.hid hlen
  obtain ⟨L1,hL1⟩:∃ L,L = (c.rep.take x1).drop x0:=⟨_,rfl⟩
  obtain ⟨L2,hL2⟩:∃ L,L = (c.df.take x1).drop x0:=⟨_,rfl⟩
  have HL1:=Lib.hid hL1;have HL2:=Lib.hid hL2
  have l1:L1.length = x1 - x0:=by rw [hL1,List.length_drop,List.length_take];omega
  have l2:L2.length = x1 - x0:=by rw [hL2,List.length_drop,List.length_take];omega
  have Hl1:=Lib.hid l1;have Hl2:=Lib.hid l2
  have HC1:=Lib.hid (fun (w1:World) (h:Below w.heap.size w w1)=>clone_any _ L1 w1 (by rw [hL1];exact isInts_cutV (HA.out.below h (Nat.le_refl _)) hq1 h01 h1l) (by omega))
  have HC2:=Lib.hid (fun (w1:World) (h:Below w.heap.size w w1)=>clone_any _ L2 w1 (by rw [hL2];exact isInts_cutV (HB.out.below h (Nat.le_refl _)) hq2 h01 (by omega)) (by omega))
  have hi0:(0:Int) ≤ (x0:Int):=by omega
  have hi1:(x0:Int) ≤ (x1:Int):=by omega
  have hi2:(x1:Int) ≤ (q1:Int):=by omega
  have hi3:(x1:Int) ≤ (q2:Int):=by omega
  clear ha hb hd hp hr hroom hlen hL1 hL2 l1 l2
  unfold lfA colA
  go_enter Tryd.func43,Tryd.ntmps43
  go_upto_region 1 with fail
  obtain ⟨rL,rC,rZ,hbw,hz⟩:=rows3 (w:=w) (A:=.cells #[.int .i64 f.id,.int .i64 f.kind,.int .i64 f.mr,.int .i64 f.md,p] 39) (B:=.cells #[.int .i64 c.id,.slice a1 c.rep.length q1,.slice a2 c.df.length q2,.slice a3 c.vals.length q3] 32) (C:=.cells #[.int .i64 0,.slice none 0 0,.slice none 0 0,.slice none 0 0] 32) (Below.refl _ _)
  have RL:=Lib.hid rL;have RC:=Lib.hid rC;have RZ:=Lib.hid rZ;have Hbw:=Lib.hid hbw
  clear rL rC rZ hbw hz
  generalize (((w.alloc (.cells #[.int .i64 f.id,.int .i64 f.kind,.int .i64 f.mr,.int .i64 f.md,p] 39)).alloc (.cells #[.int .i64 c.id,.slice a1 c.rep.length q1,.slice a2 c.df.length q2,.slice a3 c.vals.length q3] 32)).alloc (.cells #[.int .i64 0,.slice none 0 0,.slice none 0 0,.slice none 0 0] 32)) = w0 at *
  have hs0:w.heap.size + 3 ≤ w0.heap.size:=row_lt RZ.out
  go_cut [9] (fun s9 wx=>∃ (g:Nat) (d1 d2:Option Addr) (k1 k2:Nat),s9 = .pointer (some ⟨g,0,none⟩) ∧ w.heap.size + 3 ≤ g ∧ L1.length ≤ k1 ∧ L2.length ≤ k2 ∧ Below w.heap.size w wx ∧ wx.heap[w.heap.size]? = some (.cells #[.int .i64 f.id,.int .i64 f.kind,.int .i64 f.mr,.int .i64 f.md,p] 39 (0,0)) ∧ wx.heap[w.heap.size + 1]? = some (.cells #[.int .i64 c.id,.slice a1 c.rep.length q1,.slice a2 c.df.length q2,.slice a3 c.vals.length q3] 32 (0,0)) ∧ wx.heap[w.heap.size + 1 + 1]? = some (.cells #[.int .i64 0,.slice none 0 0,.slice none 0 0,.slice none 0 0] 32 (0,0)) ∧ wx.heap[g]? = some (.cells #[.int .i64 c.id,.slice d1 L1.length k1,.slice d2 L2.length k2,.slice none 0 0] 32 (0,0)) ∧
    wx.ownsRow (w.heap.size + 3) 3 1 (.slice d1 L1.length k1) L1.length (L1.map iV) ∧ wx.ownsRow (w.heap.size + 3) 3 1 (.slice d2 L2.length k2) L2.length (L2.map iV) ∧ (∀ q,(.slice d1 L1.length k1:Value).ownBlock = some q → q ≠ g) ∧ (∀ q,(.slice d2 L2.length k2:Value).ownBlock = some q → q ≠ g))
  case first =>
    have HB0:=Lib.hid (Below.refl w0.heap.size w0)
    by_cases e1:q1 = x0
    case' pos =>
      have k1:(q1 = x0) = True:=eq_true e1
      simp only [k1,if_true] at HC1
      clear e1
    case' neg =>
      have k1:(q1 = x0) = False:=eq_false e1
      simp only [k1,if_false] at HC1
      clear e1
    all_goals
      by_cases e2:q2 = x0
      case' pos =>
        have k2:(q2 = x0) = True:=eq_true e2
        simp only [k2,if_true] at HC2
        clear e2
      case' neg =>
        have k2:(q2 = x0) = False:=eq_false e2
        simp only [k2,if_false] at HC2
        clear e2
    all_goals
      go_region_held3 (fun w'=>∀ j,w'.cell? ⟨w.heap.size + 1,j,none⟩ = (#[.int .i64 c.id,.slice a1 c.rep.length q1,.slice a2 c.df.length q2,.slice a3 c.vals.length q3]:Array Value)[j]?) (first | (with_reducible exact rowc RC.out) | (with_reducible exact rowc_drew RC.out) | (with_reducible exact rowc_alloc RC.out _) | (with_reducible exact rowc_alloc_drew RC.out _) | ((with_reducible refine rowc_set4 RC.out ?_ _ _ _ _) <;> omega))
        (first
        | (go_at_call 58;(with_reducible refine (HC1.out _ ?_).mono ?_);(focus (first | (with_reducible exact (Hbw.out.trans (HB0.out.mono Hbw.out.size))) | (with_reducible exact (Hbw.out.trans (HB0.out.mono Hbw.out.size)).drew) | (with_reducible exact (Hbw.out.trans (HB0.out.mono Hbw.out.size)).alloc (Hbw.out.trans (HB0.out.mono Hbw.out.size)).size _) | (with_reducible exact ((Hbw.out.trans (HB0.out.mono Hbw.out.size)).alloc (Hbw.out.trans (HB0.out.mono Hbw.out.size)).size _).drew)));rintro e w9 ⟨⟨d1,k1,rfl,hu1,hk1⟩,hb9⟩;have hv1:=own_base6 (B':=w.heap.size + 3) hu1 (by have:=HB0.out.size;first | exact Nat.le_trans hs0 this | (simp;omega));(first | ((with_reducible have hq:=rows1 hb9);have DU1:=Lib.hid (own_new6 hb9 hu1);(try (have DU2:=Lib.hid (own_lt6 HU2.out (Nat.le_refl _))));obtain ⟨rG,hbs,hl⟩:=hq;have cG:=rowc rG;have fG:=rowf rG;have RG:=Lib.hid rG;have hgz:=HB0.out.size;clear rG hl) | ((with_reducible have hq:=rows1d hb9);have DU1:=Lib.hid (own_new6d hb9 hu1);(try (have DU2:=Lib.hid (own_lt6 HU2.out (Nat.le_refl _))));obtain ⟨rG,hbs,hl⟩:=hq;have cG:=rowc rG;have fG:=rowf rG;have RG:=Lib.hid rG;have hgz:=HB0.out.size;clear rG hl) | ((with_reducible have hbs:=drew_first hb9);(try (have DU1:=Lib.hid (own_ge6 hu1 (row_lt RG.out))));(try (replace RG:=Lib.hid (row_keep hbs RG.out);replace cG:=rowc RG.out;replace fG:=rowf RG.out))) | (have hbs:=hb9;(try (have DU1:=Lib.hid (own_ge6 hu1 (row_lt RG.out))));(try (replace RG:=Lib.hid (row_keep hbs RG.out);replace cG:=rowc RG.out;replace fG:=rowf RG.out))));replace RL:=Lib.hid (row_keep hbs RL.out);replace RC:=Lib.hid (row_keep hbs RC.out);replace RZ:=Lib.hid (row_keep hbs RZ.out);(try (replace HU1:=Lib.hid (ownBelow HU1.out hbs)));(try (replace HU2:=Lib.hid (ownBelow HU2.out hbs)));replace HB0:=Lib.hid (HB0.out.trans (hbs.mono HB0.out.size));clear hb9 hbs;have HU1:=Lib.hid hv1;have Hk1:=Lib.hid hk1;clear hu1 hv1 hk1)
        | (go_at_call 58;(with_reducible refine (HC2.out _ ?_).mono ?_);(focus (first | (with_reducible exact (Hbw.out.trans (HB0.out.mono Hbw.out.size))) | (with_reducible exact (Hbw.out.trans (HB0.out.mono Hbw.out.size)).drew) | (with_reducible exact (Hbw.out.trans (HB0.out.mono Hbw.out.size)).alloc (Hbw.out.trans (HB0.out.mono Hbw.out.size)).size _) | (with_reducible exact ((Hbw.out.trans (HB0.out.mono Hbw.out.size)).alloc (Hbw.out.trans (HB0.out.mono Hbw.out.size)).size _).drew)));rintro e w9 ⟨⟨d2,k2,rfl,hu2,hk2⟩,hb9⟩;have hv2:=own_base6 (B':=w.heap.size + 3) hu2 (by have:=HB0.out.size;first | exact Nat.le_trans hs0 this | (simp;omega));(first | ((with_reducible have hq:=rows1 hb9);have DU2:=Lib.hid (own_new6 hb9 hu2);(try (have DU1:=Lib.hid (own_lt6 HU1.out (Nat.le_refl _))));obtain ⟨rG,hbs,hl⟩:=hq;have cG:=rowc rG;have fG:=rowf rG;have RG:=Lib.hid rG;have hgz:=HB0.out.size;clear rG hl) | ((with_reducible have hq:=rows1d hb9);have DU2:=Lib.hid (own_new6d hb9 hu2);(try (have DU1:=Lib.hid (own_lt6 HU1.out (Nat.le_refl _))));obtain ⟨rG,hbs,hl⟩:=hq;have cG:=rowc rG;have fG:=rowf rG;have RG:=Lib.hid rG;have hgz:=HB0.out.size;clear rG hl) | ((with_reducible have hbs:=drew_first hb9);(try (have DU2:=Lib.hid (own_ge6 hu2 (row_lt RG.out))));(try (replace RG:=Lib.hid (row_keep hbs RG.out);replace cG:=rowc RG.out;replace fG:=rowf RG.out))) | (have hbs:=hb9;(try (have DU2:=Lib.hid (own_ge6 hu2 (row_lt RG.out))));(try (replace RG:=Lib.hid (row_keep hbs RG.out);replace cG:=rowc RG.out;replace fG:=rowf RG.out))));replace RL:=Lib.hid (row_keep hbs RL.out);replace RC:=Lib.hid (row_keep hbs RC.out);replace RZ:=Lib.hid (row_keep hbs RZ.out);(try (replace HU1:=Lib.hid (ownBelow HU1.out hbs)));(try (replace HU2:=Lib.hid (ownBelow HU2.out hbs)));replace HB0:=Lib.hid (HB0.out.trans (hbs.mono HB0.out.size));clear hb9 hbs;have HU2:=Lib.hid hv2;have Hk2:=Lib.hid hk2;clear hu2 hv2 hk2))
      all_goals (go_wp2_with fail;go_meet)
      all_goals first
        | (refine ⟨_,d1,d2,k1,k2,rfl,?_,Hk1.out,Hk2.out,?_,?_,?_,?_,?_,?_,?_,?_,?_⟩;(focus (exact Nat.le_trans hs0 HB0.out.size));(focus (with_reducible exact (Hbw.out.trans (HB0.out.mono Hbw.out.size)).alloc (Hbw.out.trans (HB0.out.mono Hbw.out.size)).size _));(focus (exact (Lib.alloc_old _ _ _ (row_lt RL.out)).trans RL.out));(focus (exact (Lib.alloc_old _ _ _ (row_lt RC.out)).trans RC.out));(focus (exact (Lib.alloc_old _ _ _ (row_lt RZ.out)).trans RZ.out));(focus (with_reducible exact heap_alloc_new _ _));(focus (exact ownBelow HU1.out ((Below.refl _ _).alloc (Nat.le_refl _) _)));(focus (exact ownBelow HU2.out ((Below.refl _ _).alloc (Nat.le_refl _) _)));(focus (exact own_lt6 HU1.out (Nat.le_refl _)));(focus (exact own_lt6 HU2.out (Nat.le_refl _))))
        | (refine ⟨_,d1,d2,k1,k2,rfl,?_,Hk1.out,Hk2.out,?_,?_,?_,?_,?_,?_,?_,?_,?_⟩;(focus omega);(focus ((with_reducible refine below_set4 (Hbw.out.trans (HB0.out.mono Hbw.out.size)) _ ?_ _ _ _ _);omega));(focus (exact (set4_other (by omega) _ _ _ _).trans RL.out));(focus (exact (set4_other (by omega) _ _ _ _).trans RC.out));(focus (exact (set4_other (by omega) _ _ _ _).trans RZ.out));(focus (with_reducible exact row_set4 RG.out rfl _ _ _ _));(focus (exact own_keep6 HU1.out fun q hq=>set4_other (DU1.out q hq) _ _ _ _));(focus (exact own_keep6 HU2.out fun q hq=>set4_other (DU2.out q hq) _ _ _ _));(focus (exact DU1.out));(focus (exact DU2.out)))
  case rest =>
  obtain ⟨g,d1,d2,k1,k2,rfl,hg,hk1,hk2,hbw,rL,rC,rZ,rO,hu1,hu2,hd1,hd2⟩:=hcut
  clear RL RC RZ Hbw HC1 HC2
  have RL:=Lib.hid rL;have RC:=Lib.hid rC;have RZ:=Lib.hid rZ;have RO:=Lib.hid rO;have Hbw:=Lib.hid hbw
  have HU1:=Lib.hid hu1;have HU2:=Lib.hid hu2;have G1:=Lib.hid hd1;have G2:=Lib.hid hd2
  have Hk1:=Lib.hid hk1;have Hk2:=Lib.hid hk2
  clear rL rC rZ rO hbw hu1 hu2 hd1 hd2 hk1 hk2
  have hdl:x1 ≤ c.df.length:=by have:=Hlen.out;omega
  have cC:=rowc RC.out
  go_upto_region 4 with fail
  go_loopw [10,33] (fun u i wr=>∃ (k:Nat) (v3:Value),k ≤ x1 ∧ i = .int .i64 (k:Nat) ∧ u = .int .i64 ((many f.md (c.df.take k):Nat):Int) ∧ Below w.heap.size w wr ∧ wr.heap[w.heap.size]? = some (.cells #[.int .i64 f.id,.int .i64 f.kind,.int .i64 f.mr,.int .i64 f.md,p] 39 (0,0)) ∧ wr.heap[w.heap.size + 1]? = some (.cells #[.int .i64 c.id,.slice a1 c.rep.length q1,.slice a2 c.df.length q2,.slice a3 c.vals.length q3] 32 (0,0)) ∧ wr.heap[w.heap.size + 1 + 1]? = some (.cells #[.int .i64 0,.slice none 0 0,.slice none 0 0,.slice none 0 0] 32 (0,0)) ∧ wr.heap[g]? = some (.cells #[.int .i64 c.id,.slice d1 L1.length k1,.slice d2 L2.length k2,v3] 32 (0,0)) ∧
    wr.ownsRow (w.heap.size + 3) 3 1 (.slice d1 L1.length k1) L1.length (L1.map iV) ∧ wr.ownsRow (w.heap.size + 3) 3 1 (.slice d2 L2.length k2) L2.length (L2.map iV) ∧ wr.ownsRow (w.heap.size + 3) 61 3 v3 (partAt f c x0 x1 k).vals.length ((partAt f c x0 x1 k).vals.flatMap valCells) ∧ (∀ q,v3.ownBlock = some q → q ≠ g) ∧ (∀ q,(.slice d1 L1.length k1:Value).ownBlock = some q → v3.ownBlock ≠ some q) ∧ (∀ q,(.slice d2 L2.length k2:Value).ownBlock = some q → v3.ownBlock ≠ some q)) (fun _ i _=>x1 - (intOf i).toNat)
  case atStart=>exact ⟨0,.slice none 0 0,Nat.zero_le _,rfl,rfl,Hbw.out,RL.out,RC.out,RZ.out,RO.out,HU1.out,HU2.out,by simp [partAt,cutC,many];exact World.ownsRow_nil _ _ _ _,fun q h=>(by cases h),fun q h=>(by simp [Value.ownBlock]),fun q h=>(by simp [Value.ownBlock])⟩
  case round =>
    obtain ⟨k,v3,hk,rfl,rfl,hbr,rL,rC,rZ,rO,hu1,hu2,ho3,hd3,d13,d23⟩:=hrel
    clear RL RC RZ RO Hbw HU1 HU2 cC
    have RL:=Lib.hid rL;have RC:=Lib.hid rC;have RZ:=Lib.hid rZ;have RO:=Lib.hid rO;have Hbw:=Lib.hid hbr
    have HU1:=Lib.hid hu1;have HU2:=Lib.hid hu2;have HO3:=Lib.hid ho3;have G3:=Lib.hid hd3;have D13:=Lib.hid d13;have D23:=Lib.hid d23
    clear rL rC rZ rO hbr hu1 hu2 ho3 hd3 d13 d23
    by_cases hlt:k < x1
    case neg =>
      obtain rfl:k = x1:=by omega
      have he:partAt f c x0 k k = cutC f c x0 k:=by simp only [partAt,Nat.min_self]
      rw [he] at HO3
      obtain ⟨n3,b3,c3,eu3⟩:=own_cap6 HO3.out
      subst eu3
      have cO:=rowc RO.out;have cZ:=rowc RZ.out;have fZ:=rowf RZ.out
      go_wp2_with fail
      refine bodyPost_ret (v:=.agg #[.int .i64 c.id,.slice d1 L1.length k1,.slice d2 L2.length k2,.slice b3 n3 c3]) (results_cell_row Tryd.results43 _ _ (w.heap.size + 1 + 1) 32 _ (0,0) _ rfl (row_set4 RZ.out rfl _ _ _ _) Tryd.underlying32 rfl (by kernel_rfl)) rfl ⟨⟨_,rfl,?_,?_,?_⟩,below_set4 Hbw.out _ (by omega) _ _ _ _⟩
      · have h1:=IsInts_of_own (ownK HU1.out fun i hi _=>set4_other (k:=w.heap.size + 1 + 1) (by omega) (.int .i64 c.id) (.slice d1 L1.length k1) (.slice d2 L2.length k2) (.slice b3 n3 c3))
        have h2:=IsInts_of_own (ownK HU2.out fun i hi _=>set4_other (k:=w.heap.size + 1 + 1) (by omega) (.int .i64 c.id) (.slice d1 L1.length k1) (.slice d2 L2.length k2) (.slice b3 n3 c3))
        have h3:=IsVals.of_own (ownK HO3.out fun i hi _=>set4_other (k:=w.heap.size + 1 + 1) (by omega) (.int .i64 c.id) (.slice d1 L1.length k1) (.slice d2 L2.length k2) (.slice b3 n3 c3))
        refine ⟨_,_,_,rfl,?_,?_,h3⟩
        · show IsInts _ _ ((c.rep.take k).drop x0);rw [← HL1.out];exact h1
        · show IsInts _ _ ((c.df.take k).drop x0);rw [← HL2.out];exact h2
      · exact room_lit Hk1.out Hk2.out
      · have h1:=own_base6 (B':=w.heap.size) (ownK HU1.out fun i hi _=>set4_other (k:=w.heap.size + 1 + 1) (by omega) (.int .i64 c.id) (.slice d1 L1.length k1) (.slice d2 L2.length k2) (.slice b3 n3 c3)) (by omega)
        have h2:=own_base6 (B':=w.heap.size) (ownK HU2.out fun i hi _=>set4_other (k:=w.heap.size + 1 + 1) (by omega) (.int .i64 c.id) (.slice d1 L1.length k1) (.slice d2 L2.length k2) (.slice b3 n3 c3)) (by omega)
        have h3:=own_base6 (B':=w.heap.size) (ownK HO3.out fun i hi _=>set4_other (k:=w.heap.size + 1 + 1) (by omega) (.int .i64 c.id) (.slice d1 L1.length k1) (.slice d2 L2.length k2) (.slice b3 n3 c3)) (by omega)
        refine ⟨_,_,_,rfl,?_,?_,h3⟩
        · show World.ownsRow _ _ _ _ _ ((c.rep.take k).drop x0).length (((c.rep.take k).drop x0).map iV);rw [← HL1.out];exact h1
        · show World.ownsRow _ _ _ _ _ ((c.df.take k).drop x0).length (((c.df.take k).drop x0).map iV);rw [← HL2.out];exact h2
    have hkd:k < c.df.length:=by omega
    obtain ⟨g2,o2,rfl,-,lt2,e2⟩:=HB.out.at (by omega)
    have E2:=Lib.hid e2
    clear e2
    have y2:=cell_in6 Hbw.out lt2 (E2.out k c.df[k] (List.getElem?_eq_getElem hkd))
    have hltI:(k:Int) < (x1:Int):=by omega
    have Hlt:=Lib.hid hlt
    have HMy:=Lib.hid (many_snocT f.md c.df k hkd)
    have HPo:=Lib.hid (fun (h:k < x0 ∨ x1 ≤ k)=>partAt_out (f:=f) (c:=c) h01 h)
    have HPv:=Lib.hid (fun (h1:x0 ≤ k)=>partAt_vals (f:=f) Hr.out hkd h1 hlt)
    have HMl:=Lib.hid (fun (h:c.df[k] = f.md)=>show many f.md (c.df.take k) < c.vals.length from by
      have h1:=many_take_le' f.md c.df (k + 1)
      rw [many_snocT f.md c.df k hkd,if_pos h,Hr.out.many] at h1
      omega)
    have hvle:c.vals.length ≤ c.rep.length:=Hr.out.vals_le
    have hsp3:(partAt f c x0 x1 k).vals.length ≤ 100000:=by simp only [partAt,cutC,List.length_drop,List.length_take];omega
    have cL:=rowc RL.out;have cC:=rowc RC.out;have cO:=rowc RO.out
    generalize hyy:c.df[k] = y at *
    clear hyy
    generalize hMe:many f.md (c.df.take (k + 1)) = M1 at *
    have HMe:=Lib.hid hMe
    clear hMe
    generalize hMM:many f.md (c.df.take k) = M at *
    generalize hpb:partAt f c x0 x1 (k + 1) = pb at *
    have Hpb:=Lib.hid hpb
    clear hpb
    generalize partAt f c x0 x1 k = pa at *
    by_cases hy:y = f.md
    case neg =>
      have hyb:(y != f.md) = true:=by simpa using hy
      rw [if_neg hy] at HMy
      have hpv:pb.vals = pa.vals:=by
        by_cases h:x0 ≤ k
        · have h2:=HPv.out h
          rw [if_neg hy,List.append_nil] at h2
          exact h2
        · rw [HPo.out (by omega)]
      have HPw:=Lib.hid hpv
      clear hy hpv HPo HPv HMl
      go_wp2_with fail
      go_roundw
      case rel=>exact ⟨k + 1,v3,Hlt.out,by go_num,(by rw [HMe.out];have:=HMy.out;congr 1;omega),Hbw.out,RL.out,RC.out,RZ.out,RO.out,HU1.out,HU2.out,by rw [Hpb.out,HPw.out];exact HO3.out,G3.out,D13.out,D23.out⟩
      case measure=>have:=Hlt.out;simp [intOf];omega
    have hyb:(y != f.md) = false:=by rw [hy];simp
    rw [if_pos hy] at HMy
    have hMl:=HMl.out hy
    by_cases hx:x0 ≤ k
    case neg =>
      have hxb:¬ x0 ≤ k:=hx
      have hpo:=HPo.out (by omega)
      subst hpo
      clear hy HPo HPv HMl
      go_wp2_with fail
      go_roundw
      case rel=>exact ⟨k + 1,v3,Hlt.out,by go_num,(by rw [HMe.out];have:=HMy.out;congr 1;omega),Hbw.out,RL.out,RC.out,RZ.out,RO.out,HU1.out,HU2.out,by rw [Hpb.out];exact HO3.out,G3.out,D13.out,D23.out⟩
      case measure=>have:=Hlt.out;simp [intOf];omega
    have hpv:=HPv.out hx
    rw [if_pos hy] at hpv
    have hgv:c.vals.getD M ⟨0,0,⟨#[]⟩⟩ = c.vals[M]:=by rw [List.getD_eq_getElem?_getD,List.getElem?_eq_getElem hMl];rfl
    rw [hgv] at hpv
    have HPw:=Lib.hid hpv
    obtain ⟨g3,o3,rfl,-,lt3,e3⟩:=HD.out.at (by omega)
    have E3:=Lib.hid (e3 M c.vals[M] (List.getElem?_eq_getElem hMl))
    have hMI:(M:Int) < (c.vals.length:Int):=by omega
    clear hgv e3 hpv hy HPo HPv HMl
    generalize c.vals[M] = z at *
    go_upto_region 8 with fail
    refine AnyE.region (S:=fun w'=>(∀ j,w'.cell? ⟨g,j,none⟩ = (#[.int .i64 c.id,.slice d1 L1.length k1,.slice d2 L2.length k2,v3]:Array Value)[j]?) ∧ (∀ j,w'.cell? ⟨w.heap.size + 1,j,none⟩ = (#[.int .i64 c.id,.slice a1 c.rep.length q1,.slice (some ⟨g2,o2,none⟩) c.df.length q2,.slice (some ⟨g3,o3,none⟩) c.vals.length q3]:Array Value)[j]?) ∧ w'.cell? ⟨g3,o3 + M * 3,none⟩ = some (.int .i64 z.k) ∧ w'.cell? ⟨g3,o3 + M * 3 + 1,none⟩ = some (.int .i64 z.n) ∧ w'.cell? ⟨g3,o3 + M * 3 + 2,none⟩ = some (.string z.s)) (E:=[10]) (by kernel_rfl) ?_
    have hbd:=(Below.refl wr.heap.size wr).drew
    replace RL:=Lib.hid (row_keep hbd RL.out);replace RC:=Lib.hid (row_keep hbd RC.out);replace RZ:=Lib.hid (row_keep hbd RZ.out);replace RO:=Lib.hid (row_keep hbd RO.out);replace HU1:=Lib.hid (ownBelow HU1.out hbd);replace HU2:=Lib.hid (ownBelow HU2.out hbd);replace HO3:=Lib.hid (ownBelow HO3.out hbd);replace Hbw:=Lib.hid (Hbw.out.trans (hbd.mono Hbw.out.size))
    have z0:=cell_in6 Hbw.out lt3 E3.out.1;have z1:=cell_in6 Hbw.out lt3 E3.out.2.1;have z2:=cell_in6 Hbw.out lt3 E3.out.2.2
    have hszD:w.heap.size + 3 ≤ wr.drew.heap.size:=row_lt RZ.out
    clear hbd cL cC cO y2
    generalize wr.drew = wd at *
    have hS:=(⟨rowc RO.out,rowc RC.out,z0,z1,z2⟩:(∀ j,wd.cell? ⟨g,j,none⟩ = (#[.int .i64 c.id,.slice d1 L1.length k1,.slice d2 L2.length k2,v3]:Array Value)[j]?) ∧ (∀ j,wd.cell? ⟨w.heap.size + 1,j,none⟩ = (#[.int .i64 c.id,.slice a1 c.rep.length q1,.slice (some ⟨g2,o2,none⟩) c.df.length q2,.slice (some ⟨g3,o3,none⟩) c.vals.length q3]:Array Value)[j]?) ∧ wd.cell? ⟨g3,o3 + M * 3,none⟩ = some (.int .i64 z.k) ∧ wd.cell? ⟨g3,o3 + M * 3 + 1,none⟩ = some (.int .i64 z.n) ∧ wd.cell? ⟨g3,o3 + M * 3 + 2,none⟩ = some (.string z.s))
    refine AnyE.take (i:=0) (v:=?_) rfl (by kernel_rfl) (by kernel_rfl) (by kernel_rfl) (by kernel_rfl) (by kernel_rfl) (fun _ _ _ h=>h) (Or.inl ⟨by rfl,?_⟩) hS ?_
    rotate_left
    focus (intro wq hSq;obtain ⟨hS1,hS2,hS3,hS4,hS5⟩:=hSq;go_simp;with_reducible rfl)
    try simp only [Act.put,List.getElem_toArray,List.getElem_cons_succ,List.getElem_cons_zero,List.setIfInBounds_toArray,List.set_cons_zero,List.set_cons_succ]
    refine AnyE.take (i:=1) (v:=?_) rfl (by kernel_rfl) (by kernel_rfl) (by kernel_rfl) (by kernel_rfl) (by kernel_rfl) (fun _ _ _ h=>h) (Or.inl ⟨by rfl,?_⟩) hS ?_
    rotate_left
    focus (intro wq hSq;obtain ⟨hS1,hS2,hS3,hS4,hS5⟩:=hSq;go_simp;with_reducible rfl)
    try simp only [Act.put,List.getElem_toArray,List.getElem_cons_succ,List.getElem_cons_zero,List.setIfInBounds_toArray,List.set_cons_zero,List.set_cons_succ]
    refine AnyE.take (i:=2) (v:=?_) rfl (by kernel_rfl) (by kernel_rfl) (by kernel_rfl) (by kernel_rfl) (by kernel_rfl) (fun _ _ _ h=>h) (Or.inl ⟨by rfl,?_⟩) hS ?_
    rotate_left
    focus (intro wq hSq;obtain ⟨hS1,hS2,hS3,hS4,hS5⟩:=hSq;go_simp;with_reducible rfl)
    try simp only [Act.put,List.getElem_toArray,List.getElem_cons_succ,List.getElem_cons_zero,List.setIfInBounds_toArray,List.set_cons_zero,List.set_cons_succ]
    refine AnyE.take (i:=3) (v:=?_) rfl (by kernel_rfl) (by kernel_rfl) (by kernel_rfl) (by kernel_rfl) (by kernel_rfl) (fun _ _ _ h=>h) (Or.inl ⟨by rfl,?_⟩) hS ?_
    rotate_left
    focus (intro wq hSq;obtain ⟨hS1,hS2,hS3,hS4,hS5⟩:=hSq;go_simp;with_reducible rfl)
    try simp only [Act.put,List.getElem_toArray,List.getElem_cons_succ,List.getElem_cons_zero,List.setIfInBounds_toArray,List.set_cons_zero,List.set_cons_succ]
    refine AnyE.take (i:=4) (v:=?_) rfl (by kernel_rfl) (by kernel_rfl) (by kernel_rfl) (by kernel_rfl) (by kernel_rfl) (fun _ _ _ h=>h) (Or.inl ⟨by rfl,?_⟩) hS ?_
    rotate_left
    focus (intro wq hSq;obtain ⟨hS1,hS2,hS3,hS4,hS5⟩:=hSq;go_simp;with_reducible rfl)
    try simp only [Act.put,List.getElem_toArray,List.getElem_cons_succ,List.getElem_cons_zero,List.setIfInBounds_toArray,List.set_cons_zero,List.set_cons_succ]
    refine AnyE.take (i:=5) (v:=?_) rfl (by kernel_rfl) (by kernel_rfl) (by kernel_rfl) (by kernel_rfl) (by kernel_rfl) (fun _ _ _ h=>h) (Or.inl ⟨by rfl,?_⟩) hS ?_
    rotate_left
    focus (intro wq hSq;obtain ⟨hS1,hS2,hS3,hS4,hS5⟩:=hSq;go_simp;with_reducible rfl)
    try simp only [Act.put,List.getElem_toArray,List.getElem_cons_succ,List.getElem_cons_zero,List.setIfInBounds_toArray,List.set_cons_zero,List.set_cons_succ]
    refine AnyE.take (i:=6) (v:=?_) rfl (by kernel_rfl) (by kernel_rfl) (by kernel_rfl) (by kernel_rfl) (by kernel_rfl) (fun _ _ _ h=>h) (Or.inl ⟨by rfl,?_⟩) hS ?_
    rotate_left
    focus (intro wq hSq;obtain ⟨hS1,hS2,hS3,hS4,hS5⟩:=hSq;go_simp;with_reducible rfl)
    try simp only [Act.put,List.getElem_toArray,List.getElem_cons_succ,List.getElem_cons_zero,List.setIfInBounds_toArray,List.set_cons_zero,List.set_cons_succ]
    refine AnyE.one (i:=7) (by kernel_rfl) rfl rfl ?_
    intro K hK
    simp only [List.getElem_toArray,List.getElem_cons_succ,List.getElem_cons_zero]
    go_simp
    have hbe:=(Below.refl wd.heap.size wd).alloc (Nat.le_refl _) (.cells #[.int .i64 z.k,.int .i64 z.n,.string z.s] 61)
    refine hK _ _ (fun _=>⟨rowc_alloc RO.out _,rowc_alloc RC.out _,cell_alloc6 z0 _,cell_alloc6 z1 _,cell_alloc6 z2 _⟩) ?_
    clear hK K
    try simp only [Act.put,List.getElem_toArray,List.getElem_cons_succ,List.getElem_cons_zero,List.setIfInBounds_toArray,List.set_cons_zero,List.set_cons_succ]
    have RT:=Lib.hid (heap_alloc_new wd (.cells #[.int .i64 z.k,.int .i64 z.n,.string z.s] 61))
    replace RL:=Lib.hid (row_keep hbe RL.out);replace RC:=Lib.hid (row_keep hbe RC.out);replace RZ:=Lib.hid (row_keep hbe RZ.out);replace RO:=Lib.hid (row_keep hbe RO.out);replace HU1:=Lib.hid (ownBelow HU1.out hbe);replace HU2:=Lib.hid (ownBelow HU2.out hbe);replace HO3:=Lib.hid (ownBelow HO3.out hbe);replace Hbw:=Lib.hid (Hbw.out.trans (hbe.mono Hbw.out.size))
    replace hszD:=Nat.le_trans hszD hbe.size
    replace z0:=cell_alloc6 z0 (.cells #[.int .i64 z.k,.int .i64 z.n,.string z.s] 61);replace z1:=cell_alloc6 z1 (.cells #[.int .i64 z.k,.int .i64 z.n,.string z.s] 61);replace z2:=cell_alloc6 z2 (.cells #[.int .i64 z.k,.int .i64 z.n,.string z.s] 61)
    clear hbe hS
    generalize wd.alloc (.cells #[.int .i64 z.k,.int .i64 z.n,.string z.s] 61) = we at *
    generalize wd.heap.size = gt at *
    refine AnyE.one (i:=8) (by kernel_rfl) rfl rfl ?_
    intro K hK
    simp only [List.getElem_toArray,List.getElem_cons_succ,List.getElem_cons_zero]
    refine wp_appV (.tmp 46) (.tmp 52) rfl (w.heap.size + 3) v3 _ ?_ HO3.out (.slice (some ⟨gt,0,none⟩) 1 1) [z] ?_ (isVals_row [z] _ _ _ RT.out) ?_ ?_ ?_
    focus (go_simp)
    focus (go_simp)
    focus (have:=hsp3;simp only [List.length_cons,List.length_nil];omega)
    focus (omega)
    intro u3 wg ho3 hg3 hq3
    have hgl:=row_lt RO.out
    have hb3:=(Below.refl (w.heap.size + 3) we).grown hg3 hszD (fun q hq=>(HO3.out.lt q hq).1)
    have f31:=own_far HU1.out hg3 (fun q h1 h2=>D13.out q h1 h2)
    have f32:=own_far HU2.out hg3 (fun q h1 h2=>D23.out q h1 h2)
    replace RO:=Lib.hid ((hg3.block g hgl (fun e=>G3.out g e.symm rfl)).trans RO.out)
    replace RL:=Lib.hid (row_below hb3 RL.out (by omega));replace RC:=Lib.hid (row_below hb3 RC.out (by omega));replace RZ:=Lib.hid (row_below hb3 RZ.out (by omega))
    replace D13:=Lib.hid (show ∀ q,(.slice d1 L1.length k1:Value).ownBlock = some q → u3.ownBlock ≠ some q from fun q h2 hq=>by
      rcases hq3 with e | e
      · exact D13.out q h2 (e ▸ hq)
      · rw [e] at hq;cases hq;have:=(HU1.out.lt _ h2).2;omega)
    replace D23:=Lib.hid (show ∀ q,(.slice d2 L2.length k2:Value).ownBlock = some q → u3.ownBlock ≠ some q from fun q h2 hq=>by
      rcases hq3 with e | e
      · exact D23.out q h2 (e ▸ hq)
      · rw [e] at hq;cases hq;have:=(HU2.out.lt _ h2).2;omega)
    replace G3:=Lib.hid (show ∀ q,u3.ownBlock = some q → q ≠ g from fun q hq=>by
      rcases hq3 with e | e
      · exact G3.out q (e ▸ hq)
      · rw [e] at hq;cases hq;omega)
    replace HU1:=Lib.hid f31;replace HU2:=Lib.hid f32;replace HO3:=Lib.hid ho3
    replace Hbw:=Lib.hid (Hbw.out.trans (hb3.mono (by omega)))
    replace hszD:=Nat.le_trans hszD hb3.size
    have hS:=(⟨rowc RO.out,rowc RC.out,cell_in6 hb3 (Nat.lt_of_lt_of_le lt3 (Nat.le_add_right _ _)) z0,cell_in6 hb3 (Nat.lt_of_lt_of_le lt3 (Nat.le_add_right _ _)) z1,cell_in6 hb3 (Nat.lt_of_lt_of_le lt3 (Nat.le_add_right _ _)) z2⟩:(∀ j,wg.cell? ⟨g,j,none⟩ = (#[.int .i64 c.id,.slice d1 L1.length k1,.slice d2 L2.length k2,v3]:Array Value)[j]?) ∧ (∀ j,wg.cell? ⟨w.heap.size + 1,j,none⟩ = (#[.int .i64 c.id,.slice a1 c.rep.length q1,.slice (some ⟨g2,o2,none⟩) c.df.length q2,.slice (some ⟨g3,o3,none⟩) c.vals.length q3]:Array Value)[j]?) ∧ wg.cell? ⟨g3,o3 + M * 3,none⟩ = some (.int .i64 z.k) ∧ wg.cell? ⟨g3,o3 + M * 3 + 1,none⟩ = some (.int .i64 z.n) ∧ wg.cell? ⟨g3,o3 + M * 3 + 2,none⟩ = some (.string z.s))
    refine hK _ _ (fun _=>hS) ?_
    clear hK K RT f31 f32 hb3 hg3 hq3 ho3 z0 z1 z2 hgl
    try simp only [Act.put,List.getElem_toArray,List.getElem_cons_succ,List.getElem_cons_zero,List.setIfInBounds_toArray,List.set_cons_zero,List.set_cons_succ]
    refine AnyE.take (i:=9) (v:=?_) rfl (by kernel_rfl) (by kernel_rfl) (by kernel_rfl) (by kernel_rfl) (by kernel_rfl) (fun _ _ _ h=>h) (Or.inl ⟨by rfl,?_⟩) hS ?_
    rotate_left
    focus (intro wq hSq;obtain ⟨hS1,hS2,hS3,hS4,hS5⟩:=hSq;go_simp;with_reducible rfl)
    try simp only [Act.put,List.getElem_toArray,List.getElem_cons_succ,List.getElem_cons_zero,List.setIfInBounds_toArray,List.set_cons_zero,List.set_cons_succ]
    clear hS
    obtain ⟨un,ub,uc,eu⟩:=own_cap6 HO3.out
    subst eu
    refine AnyE.one (i:=10) (by kernel_rfl) rfl rfl ?_
    intro K hK
    have cO:=rowc RO.out;have fO:=rowf RO.out
    simp only [List.getElem_toArray,List.getElem_cons_succ,List.getElem_cons_zero]
    go_simp
    refine hK _ _ (fun h=>by cases h) ?_
    clear hK K cO fO
    obtain ⟨s1,s2,s3,s4⟩:=store_cell_row (j:=3) (v:=.slice ub un uc) RO.out
    replace RL:=Lib.hid ((s2 _ (by omega)).trans RL.out);replace RC:=Lib.hid ((s2 _ (by omega)).trans RC.out);replace RZ:=Lib.hid ((s2 _ (by omega)).trans RZ.out);replace Hbw:=Lib.hid (Hbw.out.trans (s3.mono (by omega)))
    replace HU1:=Lib.hid (own_keep6 HU1.out fun q hq=>s2 q (G1.out q hq));replace HU2:=Lib.hid (own_keep6 HU2.out fun q hq=>s2 q (G2.out q hq));replace HO3:=Lib.hid (own_keep6 HO3.out fun q hq=>s2 q (G3.out q hq))
    replace RO:=Lib.hid (s1.trans (show _ = some (.cells #[.int .i64 c.id,.slice d1 L1.length k1,.slice d2 L2.length k2,.slice ub un uc] 32 (0,0)) from rfl))
    clear s1;clear s2;clear s3;clear s4
    try simp only [Act.put,List.getElem_toArray,List.getElem_cons_succ,List.getElem_cons_zero,List.setIfInBounds_toArray,List.set_cons_zero,List.set_cons_succ]
    generalize wg.setCell ⟨g,3,none⟩ (.slice ub un uc) = wN at *
    refine AnyE.done (by kernel_rfl) ?_ _
    clear hszD
    go_wp2_with fail
    go_roundw
    case rel=>exact ⟨k + 1,Value.slice ub un uc,Hlt.out,by go_num,(by rw [HMe.out];have:=HMy.out;congr 1;omega),Hbw.out,RL.out,RC.out,RZ.out,RO.out,HU1.out,HU2.out,by rw [Hpb.out,HPw.out];exact HO3.out,G3.out,D13.out,D23.out⟩
    case measure=>have:=Hlt.out;simp [intOf];omega
end Go.Proofs.YtkmhmnffbgedgaaDoor
/- The walks of shred.Begins and of the document's CountOf. -/
namespace Go.Proofs.YtkmhmnffbgedgaaDoor
set_option maxHeartbeats 4000000
set_option linter.unusedVariables false
open Go Go.RowKit Go.ChangeShapes
theorem begs_short (l:List Int) (k:Nat):(begs (l.take k)).length ≤ k:=by
 rw [begs_len]
 unfold countC
 exact Nat.le_trans (List.length_filter_le _ _) (by rw [List.length_take];omega)
set_option maxRecDepth 100000 in
theorem begins_any (c:Col) (vc:Value) (w:World) (hc:IsCol w vc c) (hl:c.rep.length ≤ 100000) :
  Calls Tryd.prog 42 #[vc] w fun e w'=>(∃ u,e = .returned u ∧ w'.ownsRow w.heap.size 3 1 u (begs c.rep).length ((begs c.rep).map natV)) ∧ Below w.heap.size w w':=by
 obtain ⟨i0,hi,hz0,hz1,hz2⟩:=info_parts info_int
 obtain ⟨a,b,d,rfl,ha,hb,hd⟩:=hc
 have HA:=Lib.hid ha
 obtain ⟨a1,q1,e1⟩:=ha.form
 subst e1
 clear ha hb hd
 unfold colA
 go_enter Tryd.func42,Tryd.ntmps42
 go_wp2_with fail
 go_loopw [3,9] (fun u i wr=>∃ k:Nat,k ≤ c.rep.length ∧ i = .int .i64 k ∧ wr.ownsRow w.heap.size 3 1 u (begs (c.rep.take k)).length ((begs (c.rep.take k)).map natV) ∧ Below w.heap.size w wr) (fun _ i _=>c.rep.length - (intOf i).toNat)
 case atStart=>exact ⟨0,Nat.zero_le _,rfl,World.ownsRow_nil _ _ _ _,(Below.refl _ _).alloc (Nat.le_refl _) _⟩
 case round =>
  obtain ⟨k,hk,rfl,hown,hb⟩:=hrel
  have Ho:=Lib.hid hown;have Hb:=Lib.hid hb
  have hJ:=HA.out.below hb (Nat.le_refl _)
  clear hown hb
  by_cases hlt:k < c.rep.length
  ·obtain ⟨g2,o2,rfl,_,_,e2⟩:=hJ.at (by omega)
   have v2:=e2 k c.rep[k] (List.getElem?_eq_getElem hlt)
   have HS:=Lib.hid (begs_take c.rep k hlt)
   have hsh:=begs_short c.rep k
   clear e2
   generalize hx:c.rep[k] = x at *
   clear hx
   by_cases h0:x = 0
   ·have hz:(x == 0) = true:=by rw [h0];rfl
    rw [if_pos h0] at HS
    have h63:(begs (c.rep.take k)).length + 1 ≤ maxLen:=by unfold maxLen;omega
    have h64:((begs (c.rep.take k)).length + 1) * 8 ≤ 140737488355328:=by omega
    generalize begs (c.rep.take k) = L at *
    clear h0
    go_wp2_with (at_builtin;refine wpList_push rfl _ _ 22 rfl w.heap.size 3 i0 (.int .i64 0) 8 Tryd.underlying22 hi hz0 hz1 hz2 rfl natV (fun _=>rfl) _ _ rfl Ho.out _ _ rfl h63 h64 Hb.out.size k rfl ?_;intro v' w2 hown' hb' hnn;have Ho':=Lib.hid hown';have Hb':=Lib.hid hb';clear hown' hb')
    go_roundw
    case rel=>exact ⟨k + 1,hlt,by go_num,by rw [HS.out];exact Ho'.out,Hb.out.trans Hb'.out⟩
    case measure=>simp [intOf];omega
   ·have hz:(x == 0) = false:=by simpa using h0
    rw [if_neg h0,List.append_nil] at HS
    generalize begs (c.rep.take k) = L at *
    clear h0
    go_wp2_with fail
    go_roundw
    case rel=>exact ⟨k + 1,hlt,by go_num,by rw [HS.out];exact Ho.out,Hb.out⟩
    case measure=>simp [intOf];omega
  ·obtain rfl:k = c.rep.length:=by omega
   rw [List.take_length] at Ho
   go_wp2_with fail
   go_ret
   exact ⟨⟨_,rfl,Ho.out⟩,Hb.out⟩
end Go.Proofs.YtkmhmnffbgedgaaDoor
/- The walks of the laws' slim, of shred.Count and shred.Part. Written by gen_sp1.py. -/
namespace Go.Proofs.YtkmhmnffbgedgaaDoor
set_option maxHeartbeats 4000000
set_option linter.unusedVariables false
set_option linter.unusedSimpArgs false
open Go Go.RowKit Go.ChangeShapes
set_option maxRecDepth 100000 in
theorem count_any (c:Col) (vc:Value) (w:World) (hc:IsCol w vc c) (hl:c.rep.length ≤ 100000) :
  Calls Tryd.prog 20 #[vc] w fun e w'=>e = .returned (.int .i64 (countC c.rep:Nat)) ∧ Below w.heap.size w w':=by
 obtain ⟨a,b,d,rfl,ha,hb,hd⟩:=hc
 have HA:=Lib.hid ha
 obtain ⟨a1,q1,rfl⟩:=ha.form
 clear ha hb hd
 obtain ⟨len,hlen⟩:∃ len,c.rep.length = len:=⟨_,rfl⟩
 rw [hlen] at HA hl ⊢
 have HL:=Lib.hid hlen
 clear hlen
 have hb0:=(Below.refl w.heap.size w).alloc (Nat.le_refl _) (.cells (colA c (.slice a1 len q1) b d) 32)
 have hr0:=heap_alloc_new w (.cells (colA c (.slice a1 len q1) b d) 32)
 unfold colA at *
 go_enter Tryd.func20,Tryd.ntmps20
 go_upto_region 2 with fail
 generalize w.alloc (.cells #[.int .i64 c.id,.slice a1 len q1,b,d] 32) = w1 at *
 have HB:=Lib.hid hb0;have cC:=rowc hr0
 clear hb0 hr0
 go_wp2_with fail
 clear cC
 go_loop [3,9] (fun s i=>∃ k:Nat,k ≤ len ∧ i = .int .i64 (k:Nat) ∧ s = .int .i64 (countC (c.rep.take k):Nat)) (fun _ i=>len - (intOf i).toNat)
 case atStart=>exact ⟨0,Nat.zero_le _,rfl,rfl⟩
 case round =>
  obtain ⟨k,hk,rfl,rfl⟩:=hrel
  by_cases hlt:k < len
  ·have hkl:k < c.rep.length:=by rw [HL.out];exact hlt
   obtain ⟨b0,off,rfl,-,hlt0,hcv⟩:=(HA.out.below HB.out (Nat.le_refl _)).at (by omega)
   have hcx:=hcv k c.rep[k] (List.getElem?_eq_getElem hkl)
   have hct:=countC_take c.rep k hkl
   have hle:countC (c.rep.take k) ≤ k:=by unfold countC;exact Nat.le_trans (List.length_filter_le _ _) (List.length_take_le _ _)
   have hin:(k:Int) < (len:Int):=by omega
   generalize c.rep[k] = y at *
   have HCT:=Lib.hid hct;have Hlt:=Lib.hid hlt
   generalize hq:countC (c.rep.take k) = q at *
   clear hcv hkl hct hq
   by_cases h0:y = 0
   ·have d0:((y:Int) == 0) = true:=by simpa using h0
    have H0:=Lib.hid h0
    clear h0
    go_wp2_with fail
    go_round
    case rel=>exact ⟨k + 1,Hlt.out,by go_num,by rw [HCT.out,if_pos H0.out];go_num⟩
    case measure=>have:=Hlt.out;simp [intOf];omega
   ·have d0:((y:Int) == 0) = false:=by simpa using h0
    have H0:=Lib.hid h0
    clear h0
    go_wp2_with fail
    go_round
    case rel=>exact ⟨k + 1,Hlt.out,by go_num,by rw [HCT.out,if_neg H0.out];rfl⟩
    case measure=>have:=Hlt.out;simp [intOf];omega
  ·obtain rfl:k = len:=by omega
   have hT:=Lib.hid (show c.rep.take k = c.rep from List.take_of_length_le (Nat.le_of_eq HL.out))
   go_wp2_with fail
   go_ret
   exact ⟨by rw [hT.out];rfl,HB.out⟩
theorem err_if {w:World} {adr:Nat → Addr} {e:GErr} {u:Value} (h:IsErr w adr e u) (hn:e ≠ .nil):∃ T p,u = .iface T p:=by
 cases e with
 | nil=>exact absurd rfl hn
 | sent k=>exact ⟨_,_,h.2.2⟩
 | fault k p=>obtain ⟨-,-,b,h,-⟩:=h;exact ⟨_,_,h⟩
def PartBad (adr:Nat → Addr) (G:GErr) (w:World) (e:Ending) (w':World):Prop:=(∃ u,e = .returned (.tuple #[.agg #[.int .i64 0,.slice none 0 0,.slice none 0 0,.slice none 0 0],u]) ∧ IsErr w' adr G u) ∧ Below w.heap.size w w'
end Go.Proofs.YtkmhmnffbgedgaaDoor
