/- Trees of nodes: plain Lean (Valid's and SchemaError's answer are the same). -/
import Derived.Test.YtdcgihplkangeaaGreatDoorMPlain
import Derived.Test.YtdcgihplkangeaaGreatDoorMVal
namespace Go.Proofs.YtdcgihplkangeaaGreatDoor
set_option linter.unusedVariables false
open Go Go.RowKit
inductive Nd where
 | mk (id:Int) (name:ByteArray) (rep kind:Int) (sub:List Nd)
namespace Nd
def id:Nd → Int | .mk a _ _ _ _=>a
def name:Nd → ByteArray | .mk _ b _ _ _=>b
def rep:Nd → Int | .mk _ _ c _ _=>c
def kind:Nd → Int | .mk _ _ _ d _=>d
def sub:Nd → List Nd | .mk _ _ _ _ l=>l
theorem ind {P:Nd → Prop} (h:∀ n,(∀ x ∈ n.sub,P x) → P n):∀ n,P n
 | .mk a b c d l=>h _ fun x hx=>ind h x
termination_by n=>SizeOf.sizeOf n
decreasing_by
 have:=List.sizeOf_lt_of_mem (show x ∈ l from hx)
 simp only [Nd.mk.sizeOf_spec];omega
end Nd
mutual
def pre:Nd → Int → List (Nd × Int)
 | .mk a b c d l,k=>(.mk a b c d l,k) :: preL l (wrap64 (k + 1))
def preL:List Nd → Int → List (Nd × Int)
 | [],_=>[]
 | x :: r,k=>pre x k ++ preL r k
end
theorem pre_eq (n:Nd) (k:Int):pre n k = (n,k) :: preL n.sub (wrap64 (k + 1)):=by cases n;simp only [pre];rfl
theorem preL_app (a b:List Nd) (k:Int):preL (a ++ b) k = preL a k ++ preL b k:=by
 induction a with
 | nil=>rfl
 | cons x r ih=>simp only [List.cons_append,preL,ih,List.append_assoc]
def runF {σ:Type} (f:Nd → Int → σ → Bool × σ):List (Nd × Int) → σ → Bool × σ
 | [],s=>(true,s)
 | (n,k) :: r,s=>if (f n k s).1 then runF f r (f n k s).2 else (false,(f n k s).2)
theorem runF_app {σ:Type} (f:Nd → Int → σ → Bool × σ) (a b:List (Nd × Int)) (s:σ):runF f (a ++ b) s = if (runF f a s).1 then runF f b (runF f a s).2 else (false,(runF f a s).2):=by
 induction a generalizing s with
 | nil=>simp [runF]
 | cons x r ih =>
  obtain ⟨n,k⟩:=x
  simp only [List.cons_append,runF]
  by_cases h:(f n k s).1 = true
  ·simp only [h,if_true];exact ih _
  ·simp only [h];simp
mutual
def size:Nd → Nat
 | .mk _ _ _ _ l=>1 + sizeL l
def sizeL:List Nd → Nat
 | []=>0
 | x :: r=>size x + sizeL r
end
mutual
def hgt:Nd → Nat
 | .mk _ _ _ _ l=>1 + hgtL l
def hgtL:List Nd → Nat
 | []=>0
 | x :: r=>max (hgt x) (hgtL r)
end
mutual
def nodes:Nd → List Nd
 | .mk a b c d l=>.mk a b c d l :: nodesL l
def nodesL:List Nd → List Nd
 | []=>[]
 | x :: r=>nodes x ++ nodesL r
end
theorem size_eq (n:Nd):size n = 1 + sizeL n.sub:=by cases n;simp only [size];rfl
theorem hgt_eq (n:Nd):hgt n = 1 + hgtL n.sub:=by cases n;simp only [hgt];rfl
theorem nodes_eq (n:Nd):nodes n = n :: nodesL n.sub:=by cases n;simp only [nodes];rfl
theorem tree2 {P:Nd → Prop} {Q:List Nd → Prop} (h0:∀ n,Q n.sub → P n) (h1:Q []) (h2:∀ x r,P x → Q r → Q (x :: r)):(∀ n,P n) ∧ ∀ l,Q l:=by
 have hp:∀ n,P n:=by
  apply Nd.ind
  intro n ih
  apply h0
  generalize n.sub = l at ih
  induction l with
  | nil=>exact h1
  | cons x r ihr=>exact h2 x r (ih x (List.mem_cons_self ..)) (ihr fun y hy=>ih y (List.mem_cons_of_mem _ hy))
 refine ⟨hp,fun l=>?_⟩
 induction l with
 | nil=>exact h1
 | cons x r ihr=>exact h2 x r (hp x) ihr
theorem size_len:(∀ n,(nodes n).length = size n) ∧ ∀ l,(nodesL l).length = sizeL l:=by
 refine tree2 (fun n h=>?_) rfl (fun x r h1 h2=>?_)
 ·rw [nodes_eq,size_eq,List.length_cons,h];omega
 ·simp only [nodesL,sizeL,List.length_append,h1,h2]
structure Pl where
 n:Nd
 deep:Int
 around:Int
mutual
def flatF:List Pl → Nd → Int → Int → List Pl
 | l,.mk a b c d sub,k,ar=>if 2000 < l.length ∨ 100 < k then l else flatFL (l ++ [⟨.mk a b c d sub,k,ar⟩]) sub (k + 1) l.length
def flatFL:List Pl → List Nd → Int → Int → List Pl
 | l,[],_,_=>l
 | l,x :: r,k,ar=>flatFL (flatF l x k ar) r k ar
end
mutual
def plc:Nat → Nd → Int → Int → List Pl
 | p,.mk a b c d sub,k,ar=>⟨.mk a b c d sub,k,ar⟩ :: plcL (p + 1) sub (k + 1) p
def plcL:Nat → List Nd → Int → Int → List Pl
 | _,[],_,_=>[]
 | p,x :: r,k,ar=>plc p x k ar ++ plcL (p + size x) r k ar
end
theorem flatF_eq (l:List Pl) (n:Nd) (k ar:Int):flatF l n k ar = if 2000 < l.length ∨ 100 < k then l else flatFL (l ++ [⟨n,k,ar⟩]) n.sub (k + 1) l.length:=by cases n;simp only [flatF];rfl
theorem plc_eq (p:Nat) (n:Nd) (k ar:Int):plc p n k ar = ⟨n,k,ar⟩ :: plcL (p + 1) n.sub (k + 1) p:=by cases n;simp only [plc];rfl
theorem plc_nodes:(∀ n,∀ p k ar,(plc p n k ar).map Pl.n = nodes n) ∧ ∀ l,∀ p k ar,(plcL p l k ar).map Pl.n = nodesL l:=by
 refine tree2 (fun n h p k ar=>?_) (fun p k ar=>rfl) (fun x r h1 h2 p k ar=>?_)
 ·rw [plc_eq,nodes_eq,List.map_cons,h]
 ·simp only [plcL,nodesL,List.map_append,h1,h2]
theorem plc_len (n:Nd) (p:Nat) (k ar:Int):(plc p n k ar).length = size n:=by rw [← size_len.1,← plc_nodes.1 n p k ar,List.length_map]
theorem plcL_len (l:List Nd) (p:Nat) (k ar:Int):(plcL p l k ar).length = sizeL l:=by rw [← size_len.2,← plc_nodes.2 l p k ar,List.length_map]
theorem flat_pre:(∀ n,∀ l k ar,l <+: flatF l n k ar) ∧ ∀ s,∀ l k ar,l <+: flatFL l s k ar:=by
 refine tree2 (fun n h l k ar=>?_) (fun l k ar=>?_) (fun x r h1 h2 l k ar=>?_)
 ·rw [flatF_eq]
  split
  ·exact List.prefix_refl _
  ·exact (List.prefix_append l _).trans (h _ _ _)
 ·simp only [flatFL];exact List.prefix_refl _
 ·simp only [flatFL];exact (h1 _ _ _).trans (h2 _ _ _)
theorem flat_small:(∀ n,∀ (l:List Pl) (k ar:Int),l.length + size n ≤ 2001 → k + hgt n ≤ 101 → flatF l n k ar = l ++ plc l.length n k ar) ∧
  ∀ s,∀ (l:List Pl) (k ar:Int),l.length + sizeL s ≤ 2001 → k + hgtL s ≤ 101 → flatFL l s k ar = l ++ plcL l.length s k ar:=by
 refine tree2 (fun n h l k ar h1 h2=>?_) (fun l k ar _ _=>?_) (fun x r ih1 ih2 l k ar h1 h2=>?_)
 ·rw [size_eq] at h1;rw [hgt_eq] at h2
  rw [flatF_eq,if_neg (by omega),h _ _ _ (by simp;omega) (by omega),plc_eq]
  simp
 ·simp [flatFL,plcL]
 ·simp only [sizeL] at h1;simp only [hgtL] at h2
  simp only [flatFL,plcL]
  rw [ih1 l k ar (by omega) (by omega),ih2 _ k ar (by simp [plc_len];omega) (by omega)]
  simp [plc_len]
theorem flat_good:(∀ n,∀ (l:List Pl) (k ar:Int),k ≤ 7 → (flatF l n k ar).length ≤ 40 → (∀ p ∈ flatF l n k ar,p.deep ≤ 6) → l.length + size n ≤ 40 ∧ k + hgt n ≤ 7) ∧
  ∀ s,∀ (l:List Pl) (k ar:Int),k ≤ 7 → (flatFL l s k ar).length ≤ 40 → (∀ p ∈ flatFL l s k ar,p.deep ≤ 6) → l.length + sizeL s ≤ 40 ∧ k + hgtL s ≤ 7:=by
 refine tree2 (fun n h l k ar hk h1 h2=>?_) (fun l k ar hk h1 h2=>?_) (fun x r ih1 ih2 l k ar hk h1 h2=>?_)
 ·have hl:=(flat_pre.1 n l k ar).length_le
  have hn:¬ (2000 < l.length ∨ 100 < k):=by omega
  rw [flatF_eq,if_neg hn] at h1 h2
  have hm:(⟨n,k,ar⟩:Pl) ∈ flatFL (l ++ [⟨n,k,ar⟩]) n.sub (k + 1) l.length:=(flat_pre.2 n.sub (l ++ [⟨n,k,ar⟩]) (k + 1) l.length).subset (by simp)
  have h6:=h2 _ hm
  simp only at h6
  have:=h _ _ _ (by omega) h1 h2
  rw [size_eq,hgt_eq]
  simp only [List.length_append,List.length_cons,List.length_nil] at this
  omega
 ·simp only [flatFL] at h1;simp only [sizeL,hgtL];omega
 ·simp only [flatFL] at h1 h2
  have hp:=flat_pre.2 r (flatF l x k ar) k ar
  have a:=ih1 l k ar hk (Nat.le_trans hp.length_le h1) (fun p hp'=>h2 p (hp.subset hp'))
  have e:flatF l x k ar = l ++ plc l.length x k ar:=flat_small.1 x l k ar (by omega) (by omega)
  have b:=ih2 _ k ar hk h1 h2
  rw [e,List.length_append,plc_len] at b
  simp only [sizeL,hgtL]
  omega
def goodB (n:Nd):Bool:=decide (size n ≤ 40 ∧ hgt n ≤ 6)
theorem plc_deep:(∀ n,∀ p (k ar:Int),∀ q ∈ plc p n k ar,k ≤ q.deep ∧ q.deep + 1 ≤ k + hgt n) ∧ ∀ l,∀ p (k ar:Int),∀ q ∈ plcL p l k ar,k ≤ q.deep ∧ q.deep + 1 ≤ k + hgtL l:=by
 refine tree2 (fun n h p k ar q hq=>?_) (fun p k ar q hq=>?_) (fun x r h1 h2 p k ar q hq=>?_)
 ·rw [plc_eq] at hq;rw [hgt_eq]
  rcases List.mem_cons.1 hq with rfl | hq
  ·simp only;omega
  ·have:=h _ _ _ q hq;omega
 ·simp [plcL] at hq
 ·simp only [plcL,List.mem_append] at hq
  simp only [hgtL]
  rcases hq with hq | hq
  ·have:=h1 _ _ _ q hq;omega
  ·have:=h2 _ _ _ q hq;omega
theorem flat_of_good {n:Nd} (h:goodB n = true):flatF [] n 1 (-1) = plc 0 n 1 (-1):=by
 unfold goodB at h;rw [decide_eq_true_iff] at h
 rw [flat_small.1 n [] 1 (-1) (by simp;omega) (by omega)];rfl
theorem good_flat (n:Nd):(decide ((flatF [] n 1 (-1)).length ≤ 40) && (flatF [] n 1 (-1)).all fun p=>decide (p.deep ≤ 6)) = goodB n:=by
 rw [Bool.eq_iff_iff,Bool.and_eq_true,decide_eq_true_eq,List.all_eq_true]
 constructor
 ·intro ⟨h1,h2⟩
  have:=flat_good.1 n [] 1 (-1) (by omega) h1 fun p hp=>by simpa using h2 p hp
  unfold goodB;rw [decide_eq_true_iff]
  simp at this;omega
 ·intro h
  rw [flat_of_good h]
  unfold goodB at h;rw [decide_eq_true_iff] at h
  refine ⟨by rw [plc_len];omega,fun p hp=>?_⟩
  have:=plc_deep.1 n 0 1 (-1) p hp
  rw [decide_eq_true_iff];omega
def cntF (n:Nd) (k:Int) (s:Int):Bool × Int:=(decide (wrap64 (s + 1) ≤ 40) && decide (k ≤ 6),wrap64 (s + 1))
theorem cnt_any:(∀ n,∀ k s:Int,-100 ≤ k → k ≤ 7 → 0 ≤ s → s ≤ 40 → (runF cntF (pre n k) s).1 = decide (s + size n ≤ 40 ∧ k + hgt n ≤ 7) ∧ ((runF cntF (pre n k) s).1 = true → (runF cntF (pre n k) s).2 = s + size n)) ∧
  ∀ l,∀ k s:Int,-100 ≤ k → k ≤ 7 → 0 ≤ s → s ≤ 40 → (runF cntF (preL l k) s).1 = decide (s + sizeL l ≤ 40 ∧ k + hgtL l ≤ 7) ∧ ((runF cntF (preL l k) s).1 = true → (runF cntF (preL l k) s).2 = s + sizeL l):=by
 refine tree2 (fun n h k s hk0 hk hs0 hs=>?_) (fun k s hk0 hk hs0 hs=>?_) (fun x r h1 h2 k s hk0 hk hs0 hs=>?_)
 ·rw [pre_eq,size_eq,hgt_eq]
  simp only [runF]
  have hw':wrap64 (s + 1) = s + 1:=by unfold wrap64;omega
  by_cases hc:s + 1 ≤ 40 ∧ k ≤ 6
  ·have hw:wrap64 (k + 1) = k + 1:=by unfold wrap64;omega
   obtain ⟨a,b⟩:=h (k + 1) (s + 1) (by omega) (by omega) (by omega) (by omega)
   have e:(cntF n k s).1 = true:=by simp [cntF,hc,hw']
   have e2:(cntF n k s).2 = s + 1:=by simp [cntF,hw']
   rw [if_pos e,hw,e2]
   show (runF cntF (preL n.sub (k + 1)) (s + 1)).1 = _ ∧ ((runF cntF (preL n.sub (k + 1)) (s + 1)).1 = true → (runF cntF (preL n.sub (k + 1)) (s + 1)).2 = _)
   rw [a] at b ⊢
   refine ⟨?_,fun h=>?_⟩
   ·congr 1;apply propext;omega
   ·rw [b h];omega
  ·have e:(cntF n k s).1 = false:=by simp only [cntF,hw'];rw [Bool.and_eq_false_iff,decide_eq_false_iff_not,decide_eq_false_iff_not];omega
   rw [e]
   simp only [Bool.false_eq_true,if_false,false_implies,and_true]
   exact (decide_eq_false fun h=>hc (by omega)).symm
 ·simp only [preL,runF,sizeL,hgtL]
  exact ⟨(decide_eq_true ⟨by omega,by omega⟩).symm,fun _=>by omega⟩
 ·simp only [preL,sizeL,hgtL]
  rw [runF_app]
  obtain ⟨a,b⟩:=h1 k s hk0 hk hs0 hs
  by_cases hc:s + size x ≤ 40 ∧ k + hgt x ≤ 7
  ·have e:(runF cntF (pre x k) s).1 = true:=by rw [a];exact decide_eq_true hc
   rw [if_pos e,b e]
   obtain ⟨c,d⟩:=h2 k (s + size x) hk0 hk (by omega) (by omega)
   rw [c] at d ⊢
   refine ⟨?_,fun h=>?_⟩
   ·congr 1;apply propext;omega
   ·rw [d h];omega
  ·have e:(runF cntF (pre x k) s).1 = false:=by rw [a];exact decide_eq_false hc
   rw [e]
   simp only [Bool.false_eq_true,if_false,false_implies,and_true]
   exact (decide_eq_false fun h=>hc (by omega)).symm
theorem good_cnt (n:Nd):(runF cntF (pre n 1) 0).1 = goodB n:=by
 rw [(cnt_any.1 n 1 0 (by omega) (by omega) (by omega) (by omega)).1]
 unfold goodB
 congr 1;apply propext;omega
end Go.Proofs.YtdcgihplkangeaaGreatDoor
/- Trees of nodes: plain Lean: a schema is right for the program where it is right for the document. -/
namespace Go.Proofs.YtdcgihplkangeaaGreatDoor
set_option linter.unusedVariables false
open Go Go.RowKit
def isNm (s:ByteArray):Bool:=!s.data.toList.isEmpty && decide (s.size ≤ 12) && s.data.toList.all fun c=>decide (97 ≤ c.toNat ∧ c.toNat ≤ 122)
def rootName:ByteArray:=⟨#[114,111,111,116]⟩
def rootOk (n:Nd):Bool:=decide (n.id = 0) && decide (n.name = rootName) && decide (n.rep = 1) && decide (n.kind = 0) && !n.sub.isEmpty
def okShape (n:Nd):Bool:=decide (1 ≤ n.rep) && decide (n.rep ≤ 3) && decide (0 ≤ n.kind) && decide (n.kind ≤ 5) && (decide (n.kind ≠ 0) == n.sub.isEmpty)
def namesR:List ByteArray → List Nd → Bool
 | _,[]=>true
 | s,x :: r=>(isNm x.name && !s.any fun y=>decide (y = x.name)) && namesR (s ++ [x.name]) r
def idsG (n:Nd) (s:List Int):Bool × List Int:=(decide (1 ≤ n.id) && decide (n.id ≤ 1000) && !decide (n.id ∈ s),s ++ [n.id])
def runG {σ:Type} (g:Nd → σ → Bool × σ):List Nd → σ → Bool × σ
 | [],s=>(true,s)
 | n :: r,s=>if (g n s).1 then runG g r (g n s).2 else (false,(g n s).2)
theorem runG_of {σ:Type} (f:Nd → Int → σ → Bool × σ) (g:Nd → σ → Bool × σ):∀ (L:List (Nd × Int)) (s:σ),(∀ x ∈ L,∀ t,f x.1 x.2 t = g x.1 t) → runF f L s = runG g (L.map Prod.fst) s
 | [],s,h=>rfl
 | (n,k) :: r,s,h=>by
  have h1:f n k s = g n s:=h (n,k) (List.mem_cons_self ..) s
  simp only [runF,runG,List.map_cons,h1]
  rw [runG_of f g r _ fun x hx=>h x (List.mem_cons_of_mem _ hx)]
theorem pre_nodes:(∀ n,∀ k,(pre n k).map Prod.fst = nodes n) ∧ ∀ l,∀ k,(preL l k).map Prod.fst = nodesL l:=by
 refine tree2 (fun n h k=>?_) (fun k=>rfl) (fun x r h1 h2 k=>?_)
 ·rw [pre_eq,nodes_eq,List.map_cons,h]
 ·simp only [preL,nodesL,List.map_append,h1,h2]
theorem pre_deep:(∀ n,∀ k:Int,1 ≤ k → k + hgt n ≤ 1000 → ∀ x ∈ pre n k,1 ≤ x.2) ∧ ∀ l,∀ k:Int,1 ≤ k → k + hgtL l ≤ 1000 → ∀ x ∈ preL l k,1 ≤ x.2:=by
 refine tree2 (fun n h k h1 h2 x hx=>?_) (fun k h1 h2 x hx=>?_) (fun y r ih1 ih2 k h1 h2 x hx=>?_)
 ·rw [hgt_eq] at h2
  have hw:wrap64 (k + 1) = k + 1:=by unfold wrap64;omega
  rw [pre_eq,hw] at hx
  rcases List.mem_cons.1 hx with rfl | hx
  ·exact h1
  ·exact h (k + 1) (by omega) (by omega) x hx
 ·simp [preL] at hx
 ·simp only [hgtL] at h2
  simp only [preL,List.mem_append] at hx
  rcases hx with hx | hx
  ·exact ih1 k h1 (by omega) x hx
  ·exact ih2 k h1 (by omega) x hx
theorem runG_all {σ:Type} (p:Nd → Bool):∀ (l:List Nd) (s:σ),(runG (fun n s=>(p n,s)) l s).1 = l.all p
 | [],s=>rfl
 | n :: r,s=>by
  simp only [runG,List.all_cons]
  by_cases h:p n = true
  ·rw [if_pos h,runG_all p r,h,Bool.true_and]
  ·rw [if_neg h];simp [h]
theorem run_below {σ:Type} (f:Nd → Int → σ → Bool × σ) (g:Nd → σ → Bool × σ) (n:Nd) (s:σ) (hg:goodB n = true) (h0:f n 0 s = (true,s)) (h:∀ x k t,1 ≤ k → f x k t = g x t):runF f (pre n 0) s = runG g (nodesL n.sub) s:=by
 unfold goodB at hg;rw [decide_eq_true_iff,hgt_eq] at hg
 have hw:wrap64 (0 + 1) = 1:=by unfold wrap64;omega
 rw [pre_eq,hw]
 simp only [runF,h0,if_true]
 rw [runG_of f g _ _ fun x hx t=>h x.1 x.2 t (pre_deep.2 n.sub 1 (by omega) (by omega) x hx),pre_nodes.2]
theorem run_all {σ:Type} (f:Nd → Int → σ → Bool × σ) (g:Nd → σ → Bool × σ) (n:Nd) (k:Int) (s:σ) (h:∀ x k t,f x k t = g x t):runF f (pre n k) s = runG g (nodes n) s:=by
 rw [runG_of f g _ _ fun x _ t=>h x.1 x.2 t,pre_nodes.1]
def validE (n:Nd):Nat :=
 if goodB n then (if rootOk n then (if (nodesL n.sub).all okShape then (if (nodes n).all (fun x=>namesR [] x.sub) then (if (runG idsG (nodesL n.sub) []).1 then 0 else 5) else 5) else 3) else 3) else 2
end Go.Proofs.YtdcgihplkangeaaGreatDoor
/- Trees of nodes: plain Lean: leaves; which leaf is read next. -/
namespace Go.Proofs.YtdcgihplkangeaaGreatDoor
set_option linter.unusedVariables false
set_option linter.unusedSimpArgs false
open Go Go.RowKit
mutual
def chn:Nd → List Nd → List (List Nd)
 | .mk a b c d l,h=>(h ++ [.mk a b c d l]) :: chnL l (h ++ [.mk a b c d l])
def chnL:List Nd → List Nd → List (List Nd)
 | [],_=>[]
 | x :: r,h=>chn x h ++ chnL r h
end
theorem chn_eq (n:Nd) (h:List Nd):chn n h = (h ++ [n]) :: chnL n.sub (h ++ [n]):=by cases n;simp only [chn];rfl
theorem chn_len:(∀ n,∀ h,(chn n h).length = size n) ∧ ∀ l,∀ h,(chnL l h).length = sizeL l:=by
 refine tree2 (fun n ih h=>?_) (fun h=>rfl) (fun x r h1 h2 h=>?_)
 ·rw [chn_eq,size_eq,List.length_cons,ih];omega
 ·simp only [chnL,sizeL,List.length_append,h1,h2]
def Chd:List (List Nd) → List Pl → List (List Nd) → Prop
 | _,[],[]=>True
 | C,e :: E,d :: D=>(∃ a:Nat,e.around = a ∧ a < C.length ∧ d = (C[a]?).getD [] ++ [e.n]) ∧ Chd (C ++ [d]) E D
 | _,_,_=>False
theorem Chd.app:∀ (C:List (List Nd)) (A B:List Pl) (DA DB:List (List Nd)),Chd C A DA → Chd (C ++ DA) B DB → Chd C (A ++ B) (DA ++ DB)
 | C,[],B,[],DB,_,h2=>by simpa using h2
 | C,e :: E,B,d :: D,DB,h1,h2=>by
  simp only [List.cons_append,Chd] at h1 ⊢
  exact ⟨h1.1,Chd.app _ E B D DB h1.2 (by simpa using h2)⟩
 | C,[],B,d :: D,DB,h1,_=>by simp [Chd] at h1
 | C,e :: E,B,[],DB,h1,_=>by simp [Chd] at h1
theorem chd_plc:(∀ n,∀ (q:Nat) (k:Int) (a:Nat) (C:List (List Nd)) (h:List Nd),C.length = q → a < q → C[a]? = some h → Chd C (plc q n k a) (chn n h)) ∧
  ∀ l,∀ (q:Nat) (k:Int) (a:Nat) (C:List (List Nd)) (h:List Nd),C.length = q → a < q → C[a]? = some h → Chd C (plcL q l k a) (chnL l h):=by
 refine tree2 (fun n ih q k a C h hC ha hg=>?_) (fun q k a C h hC ha hg=>?_) (fun x r h1 h2 q k a C h hC ha hg=>?_)
 ·rw [plc_eq,chn_eq]
  refine ⟨⟨a,rfl,by omega,by rw [hg];rfl⟩,?_⟩
  exact ih (q + 1) (k + 1) q _ _ (by simp [hC]) (by omega) (by rw [List.getElem?_append_right (by omega),hC];simp)
 ·simp [plcL,chnL,Chd]
 ·simp only [plcL,chnL]
  refine Chd.app _ _ _ _ _ (h1 q k a C h hC ha hg) ?_
  exact h2 (q + size x) k a _ h (by rw [List.length_append,chn_len.1,hC]) (by omega) (by rw [List.getElem?_append_left (by omega)];exact hg)
theorem Chd.at:∀ (E:List Pl) (C D:List (List Nd)),Chd C E D → D.length = E.length ∧ ∀ (j:Nat) (e:Pl),E[j]? = some e → ∃ (a:Nat) (d:List Nd),e.around = a ∧ a < C.length + j ∧ D[j]? = some (d ++ [e.n]) ∧ (C ++ D)[a]? = some d
 | [],C,[],h=>⟨rfl,fun j e he=>by simp at he⟩
 | [],C,d :: D,h=>by simp [Chd] at h
 | e :: E,C,[],h=>by simp [Chd] at h
 | e :: E,C,d :: D,h=>by
  obtain ⟨⟨a,h1,h2,h3⟩,h4⟩:=h
  obtain ⟨i1,i2⟩:=Chd.at E (C ++ [d]) D h4
  refine ⟨by simp [i1],fun j e' he=>?_⟩
  cases j with
  | zero =>
   simp only [List.getElem?_cons_zero,Option.some.injEq] at he
   subst he
   refine ⟨a,(C[a]?).getD [],h1,by omega,by simp [h3],?_⟩
   rw [List.getElem?_append_left h2,List.getElem?_eq_getElem h2];rfl
  | succ j =>
   obtain ⟨a',d',k1,k2,k3,k4⟩:=i2 j e' (by simpa using he)
   refine ⟨a',d',k1,?_,by simpa using k3,?_⟩
   ·simp only [List.length_append,List.length_cons,List.length_nil] at k2;omega
   ·rw [← k4];simp
def reps (h:List Nd):Int:=((h.filter fun n=>decide (n.rep = 3)).length:Nat)
def opts (h:List Nd):Int:=((h.filter fun n=>decide (n.rep ≠ 1)).length:Nat)
def idsOf (h:List Nd):List Int:=h.map Nd.id
def rlOf (h:List Nd):List Int:=(h.filter fun n=>decide (n.rep = 3)).map Nd.id
structure Lvf where
 id:Int
 kind:Int
 mr:Int
 md:Int
 path:List Int
def lvOf (x:Nd × List Nd):Option Lvf:=if x.1.kind = 0 then none else some ⟨x.1.id,x.1.kind,reps x.2,opts x.2,idsOf x.2⟩
mutual
def lvN:Nd → Int → Int → List Int → List Lvf
 | .mk a b c d l,mr,md,p=>if d = 0 then lvL l (if c = 3 then mr + 1 else mr) (if c ≠ 1 then md + 1 else md) (p ++ [a]) else [⟨a,d,if c = 3 then mr + 1 else mr,if c ≠ 1 then md + 1 else md,p ++ [a]⟩]
def lvL:List Nd → Int → Int → List Int → List Lvf
 | [],_,_,_=>[]
 | x :: r,mr,md,p=>lvN x mr md p ++ lvL r mr md p
end
theorem lvN_eq (n:Nd) (mr md:Int) (p:List Int):lvN n mr md p = if n.kind = 0 then lvL n.sub (if n.rep = 3 then mr + 1 else mr) (if n.rep ≠ 1 then md + 1 else md) (p ++ [n.id]) else [⟨n.id,n.kind,if n.rep = 3 then mr + 1 else mr,if n.rep ≠ 1 then md + 1 else md,p ++ [n.id]⟩]:=by cases n;simp only [lvN];rfl
theorem reps_snoc (h:List Nd) (n:Nd):reps (h ++ [n]) = if n.rep = 3 then reps h + 1 else reps h:=by
 unfold reps
 rw [List.filter_append,List.length_append]
 by_cases e:n.rep = 3 <;> simp [List.filter_cons,e]
theorem opts_snoc (h:List Nd) (n:Nd):opts (h ++ [n]) = if n.rep ≠ 1 then opts h + 1 else opts h:=by
 unfold opts
 rw [List.filter_append,List.length_append]
 by_cases e:n.rep = 1 <;> simp [List.filter_cons,e]
theorem rlOf_snoc (h:List Nd) (n:Nd):rlOf (h ++ [n]) = if n.rep = 3 then rlOf h ++ [n.id] else rlOf h:=by
 unfold rlOf
 rw [List.filter_append,List.map_append]
 by_cases e:n.rep = 3 <;> simp [List.filter_cons,e]
def shaped (n:Nd):Prop:=n.kind ≠ 0 → n.sub = []
theorem lv_chn:(∀ n,∀ h:List Nd,(∀ x ∈ nodes n,shaped x) → lvN n (reps h) (opts h) (idsOf h) = ((nodes n).zip (chn n h)).filterMap lvOf) ∧
  ∀ l,∀ h:List Nd,(∀ x ∈ nodesL l,shaped x) → lvL l (reps h) (opts h) (idsOf h) = ((nodesL l).zip (chnL l h)).filterMap lvOf:=by
 refine tree2 (fun n ih h hs=>?_) (fun h hs=>rfl) (fun x r h1 h2 h hs=>?_)
 ·rw [lvN_eq,nodes_eq,chn_eq,List.zip_cons_cons,List.filterMap_cons]
  rw [nodes_eq] at hs
  have e1:idsOf h ++ [n.id] = idsOf (h ++ [n]):=by simp [idsOf]
  rw [← reps_snoc,← opts_snoc,e1]
  by_cases hk:n.kind = 0
  ·rw [if_pos hk,ih _ fun x hx=>hs x (List.mem_cons_of_mem _ hx)]
   simp [lvOf,hk]
  ·have hn:=hs n (List.mem_cons_self ..) hk
   rw [if_neg hk,hn]
   simp [lvOf,hk,nodesL]
 ·simp only [lvL,nodesL,chnL] at hs ⊢
  rw [h1 h fun y hy=>hs y (List.mem_append_left _ hy),h2 h fun y hy=>hs y (List.mem_append_right _ hy),List.zip_append (by rw [size_len.1,chn_len.1]),List.filterMap_append]
def leavesN (n:Nd):List Lvf:=lvL n.sub 0 0 []
mutual
def lsN:Nd → List Int → List (List Int)
 | .mk a b c d l,p=>if d = 0 then lsL l (if c = 3 then p ++ [a] else p) else [if c = 3 then p ++ [a] else p]
def lsL:List Nd → List Int → List (List Int)
 | [],_=>[]
 | x :: r,p=>lsN x p ++ lsL r p
end
theorem lsN_eq (n:Nd) (p:List Int):lsN n p = if n.kind = 0 then lsL n.sub (if n.rep = 3 then p ++ [n.id] else p) else [if n.rep = 3 then p ++ [n.id] else p]:=by cases n;simp only [lsN];rfl
def lsOf (x:Nd × List Nd):Option (List Int):=if x.1.kind = 0 then none else some (rlOf x.2)
theorem ls_chn:(∀ n,∀ h:List Nd,(∀ x ∈ nodes n,shaped x) → lsN n (rlOf h) = ((nodes n).zip (chn n h)).filterMap lsOf) ∧
  ∀ l,∀ h:List Nd,(∀ x ∈ nodesL l,shaped x) → lsL l (rlOf h) = ((nodesL l).zip (chnL l h)).filterMap lsOf:=by
 refine tree2 (fun n ih h hs=>?_) (fun h hs=>rfl) (fun x r h1 h2 h hs=>?_)
 ·rw [lsN_eq,nodes_eq,chn_eq,List.zip_cons_cons,List.filterMap_cons]
  rw [nodes_eq] at hs
  rw [← rlOf_snoc]
  by_cases hk:n.kind = 0
  ·rw [if_pos hk,ih _ fun x hx=>hs x (List.mem_cons_of_mem _ hx)]
   simp [lsOf,hk]
  ·have hn:=hs n (List.mem_cons_self ..) hk
   rw [if_neg hk,hn]
   simp [lsOf,hk,nodesL]
 ·simp only [lsL,nodesL,chnL] at hs ⊢
  rw [h1 h fun y hy=>hs y (List.mem_append_left _ hy),h2 h fun y hy=>hs y (List.mem_append_right _ hy),List.zip_append (by rw [size_len.1,chn_len.1]),List.filterMap_append]
def wayTo (n:Nd) (i:Nat):List Nd:=(([] :: chnL n.sub [])[i]?).getD []
theorem way_zero (n:Nd):wayTo n 0 = []:=rfl
theorem way_up (n:Nd) (i:Nat) (p:Pl) (h1:1 ≤ i) (hp:(plc 0 n 1 (-1))[i]? = some p):∃ a:Nat,p.around = a ∧ a < i ∧ wayTo n i = wayTo n a ++ [p.n]:=by
 rw [plc_eq] at hp
 obtain ⟨j,rfl⟩:∃ j,i = j + 1:=⟨i - 1,by omega⟩
 rw [List.getElem?_cons_succ] at hp
 have hc:=chd_plc.2 n.sub 1 2 0 [[]] [] rfl (by omega) rfl
 obtain ⟨_,h2⟩:=Chd.at _ _ _ hc
 obtain ⟨a,d,k1,k2,k3,k4⟩:=h2 j p (by simpa using hp)
 refine ⟨a,k1,by simp at k2;omega,?_⟩
 unfold wayTo
 rw [List.getElem?_cons_succ,k3]
 have k4':([] :: chnL n.sub [])[a]? = some d:=by simpa using k4
 rw [k4'];rfl
theorem way_len (n:Nd):∀ i,i < (plc 0 n 1 (-1)).length → (wayTo n i).length ≤ i:=by
 intro i
 induction i using Nat.strongRecOn with
 | ind i ih =>
  intro hi
  by_cases h0:i = 0
  ·subst h0;simp [way_zero]
  ·obtain ⟨a,h1,h2,h3⟩:=way_up n i _ (by omega) (List.getElem?_eq_getElem hi)
   rw [h3,List.length_append,List.length_cons,List.length_nil]
   have:=ih a h2 (by omega)
   omega
def lvAt (n:Nd) (F:List Pl) (q:Nat):Option Lvf:=if q = 0 then none else (F[q]?).bind fun p=>lvOf (p.n,wayTo n q)
theorem zip_range {α β γ:Type} (f:α × β → Option γ):∀ (l:List α) (m:List β),l.length = m.length → ((l.zip m).filterMap f) = (List.range l.length).filterMap fun q=>(l[q]?).bind fun a=>(m[q]?).bind fun b=>f (a,b)
 | [],[],_=>rfl
 | a :: l,b :: m,h=>by
  rw [List.zip_cons_cons,List.length_cons,List.range_succ_eq_map,List.filterMap_cons,List.filterMap_cons,List.filterMap_map,zip_range f l m (by simpa using h)]
  have e:(fun q=>((a :: l)[q]?).bind fun a=>((b :: m)[q]?).bind fun b=>f (a,b)) ∘ Nat.succ = fun q=>(l[q]?).bind fun a=>(m[q]?).bind fun b=>f (a,b):=by
   funext q;simp [Function.comp]
  rw [e]
  simp
 | [],b :: m,h=>by simp at h
 | a :: l,[],h=>by simp at h
theorem leaves_at (n:Nd) (hs:∀ x ∈ nodesL n.sub,shaped x):leavesN n = (List.range (plc 0 n 1 (-1)).length).filterMap (lvAt n (plc 0 n 1 (-1))):=by
 have h:=lv_chn.2 n.sub [] hs
 have e0:reps [] = 0 ∧ opts [] = 0 ∧ idsOf [] = []:=⟨rfl,rfl,rfl⟩
 rw [e0.1,e0.2.1,e0.2.2] at h
 unfold leavesN
 rw [h,zip_range _ _ _ (by rw [size_len.2,chn_len.2])]
 rw [plc_eq,List.length_cons,List.range_succ_eq_map,List.filterMap_cons,List.filterMap_map,plcL_len,← size_len.2]
 have e1:lvAt n (⟨n,1,-1⟩ :: plcL (0 + 1) n.sub (1 + 1) (0:Nat)) 0 = none:=rfl
 simp only [e1]
 congr 1
 funext q
 simp only [Function.comp,lvAt,Nat.succ_ne_zero,if_false,List.getElem?_cons_succ,wayTo]
 have e2:(nodesL n.sub)[q]? = ((plcL (0 + 1) n.sub (1 + 1) (0:Nat))[q]?).map Pl.n:=by rw [← plc_nodes.2 n.sub (0 + 1) (1 + 1) (0:Nat),List.getElem?_map]
 rw [e2]
 cases hx:(plcL (0 + 1) n.sub (1 + 1) (0:Nat))[q]? with
 | none=>rfl
 | some p =>
  have hq:=(List.getElem?_eq_some_iff.1 hx).1
  rw [plcL_len] at hq
  have hc:q < (chnL n.sub []).length:=by rw [chn_len.2];exact hq
  simp only [Option.map_some,Option.bind_some,List.getElem?_eq_getElem hc,Option.getD_some]
end Go.Proofs.YtdcgihplkangeaaGreatDoor
/- Records (trees of datums): plain Lean: what is right for a node. -/
namespace Go.Proofs.YtdcgihplkangeaaGreatDoor
set_option linter.unusedVariables false
set_option linter.unusedSimpArgs false
open Go Go.RowKit
inductive Dt where
 | mk (no:Bool) (v:Val) (l f:List Dt)
namespace Dt
def no:Dt → Bool | .mk a _ _ _=>a
def v:Dt → Val | .mk _ b _ _=>b
def l:Dt → List Dt | .mk _ _ c _=>c
def f:Dt → List Dt | .mk _ _ _ d=>d
theorem ind {P:Dt → Prop} (h:∀ d,(∀ x ∈ d.l,P x) → (∀ x ∈ d.f,P x) → P d):∀ d,P d
 | .mk a b c d=>h _ (fun x hx=>ind h x) (fun x hx=>ind h x)
termination_by d=>SizeOf.sizeOf d
decreasing_by
 ·have:=List.sizeOf_lt_of_mem (show x ∈ c from hx)
  simp only [Dt.mk.sizeOf_spec];omega
 ·have:=List.sizeOf_lt_of_mem (show x ∈ d from hx)
  simp only [Dt.mk.sizeOf_spec];omega
end Dt
def zeroV:Val:=⟨0,0,ByteArray.empty⟩
def hasV (x:Val):Bool:=!valEq x zeroV
mutual
def datE:Nd → Bool → Dt → Nat
 | n,one,.mk no v l f =>
  if (!one && decide (n.rep = 2) && no) = true then (if (hasV v || !l.isEmpty || !f.isEmpty) = true then 3 else 0)
  else if no = true then 3
  else if (!one && decide (n.rep = 3)) = true then (if (hasV v || !f.isEmpty) = true then 3 else if 40 < l.length then 2 else datEL n l)
  else if l.isEmpty = false then 3
  else if n.kind ≠ 0 then (if f.isEmpty = false then 3 else if okB n.kind v = true then 0 else 4)
  else if (hasV v || decide (f.length ≠ n.sub.length)) = true then 3
  else datEF n.sub f
def datEL:Nd → List Dt → Nat
 | _,[]=>0
 | n,x :: r=>if datE n true x = 0 then datEL n r else datE n true x
def datEF:List Nd → List Dt → Nat
 | [],_=>0
 | s :: t,[]=>0
 | s :: t,x :: r=>if datE s false x = 0 then datEF t r else datE s false x
end
theorem datE_eq (n:Nd) (one:Bool) (d:Dt):datE n one d =
  if (!one && decide (n.rep = 2) && d.no) = true then (if (hasV d.v || !d.l.isEmpty || !d.f.isEmpty) = true then 3 else 0)
  else if d.no = true then 3
  else if (!one && decide (n.rep = 3)) = true then (if (hasV d.v || !d.f.isEmpty) = true then 3 else if 40 < d.l.length then 2 else datEL n d.l)
  else if d.l.isEmpty = false then 3
  else if n.kind ≠ 0 then (if d.f.isEmpty = false then 3 else if okB n.kind d.v = true then 0 else 4)
  else if (hasV d.v || decide (d.f.length ≠ n.sub.length)) = true then 3
  else datEF n.sub d.f:=by
 cases d;simp only [datE];rfl
theorem datEL_take (n:Nd):∀ (l:List Dt) (k:Nat) (x:Dt),l[k]? = some x → (∀ (j:Nat) y,j < k → l[j]? = some y → datE n true y = 0) → datE n true x ≠ 0 → datEL n l = datE n true x
 | [],k,x,h,_,_=>by simp at h
 | a :: r,0,x,h,_,hx=>by
  obtain rfl:a = x:=by simpa using h
  simp only [datEL];rw [if_neg hx]
 | a :: r,k + 1,x,h,hj,hx=>by
  simp only [datEL]
  rw [if_pos (hj 0 a (by omega) rfl)]
  exact datEL_take n r k x (by simpa using h) (fun j y hjk hy=>hj (j + 1) y (by omega) (by simpa using hy)) hx
theorem datEL_all (n:Nd):∀ (l:List Dt),(∀ (j:Nat) y,l[j]? = some y → datE n true y = 0) → datEL n l = 0
 | [],_=>rfl
 | a :: r,h=>by
  simp only [datEL]
  rw [if_pos (h 0 a rfl)]
  exact datEL_all n r fun j y hy=>h (j + 1) y (by simpa using hy)
theorem datEF_take:∀ (s:List Nd) (l:List Dt) (k:Nat) (n:Nd) (x:Dt),s[k]? = some n → l[k]? = some x → (∀ (j:Nat) m y,j < k → s[j]? = some m → l[j]? = some y → datE m false y = 0) → datE n false x ≠ 0 → datEF s l = datE n false x
 | [],_,k,n,x,h,_,_,_=>by simp at h
 | m :: t,[],k,n,x,_,h,_,_=>by simp at h
 | m :: t,a :: r,0,n,x,h0,h,_,hx=>by
  obtain rfl:a = x:=by simpa using h
  obtain rfl:m = n:=by simpa using h0
  simp only [datEF];rw [if_neg hx]
 | m :: t,a :: r,k + 1,n,x,h0,h,hj,hx=>by
  simp only [datEF]
  rw [if_pos (hj 0 m a (by omega) rfl rfl)]
  exact datEF_take t r k n x (by simpa using h0) (by simpa using h) (fun j m2 y hjk hm hy=>hj (j + 1) m2 y (by omega) (by simpa using hm) (by simpa using hy)) hx
theorem datEF_all:∀ (s:List Nd) (l:List Dt),(∀ (j:Nat) m y,s[j]? = some m → l[j]? = some y → datE m false y = 0) → datEF s l = 0
 | [],_,_=>by simp [datEF]
 | m :: t,[],_=>by simp [datEF]
 | m :: t,a :: r,h=>by
  simp only [datEF]
  rw [if_pos (h 0 m a rfl rfl)]
  exact datEF_all t r fun j m2 y hm hy=>h (j + 1) m2 y (by simpa using hm) (by simpa using hy)
theorem datEL_zero (n:Nd):∀ (l:List Dt),datEL n l = 0 → ∀ x ∈ l,datE n true x = 0
 | [],_,x,h=>by cases h
 | a :: r,h,x,hx=>by
  simp only [datEL] at h
  by_cases h0:datE n true a = 0
  ·rw [if_pos h0] at h
   rcases List.mem_cons.1 hx with rfl | hx
   ·exact h0
   ·exact datEL_zero n r h x hx
  ·rw [if_neg h0] at h;exact absurd h h0
theorem datEF_zero : ∀ (s : List Nd) (l : List Dt), datEF s l = 0 → ∀ (k : Nat) (n : Nd) (x : Dt), s[k]? = some n → l[k]? = some x → datE n false x = 0
  | [], _, _, k, n, x, h, _ => by simp at h
  | m :: t, [], _, k, n, x, _, h => by simp at h
  | m :: t, a :: r, h, k, n, x, h0, h1 => by
    simp only [datEF] at h
    by_cases hz : datE m false a = 0
    · rw [if_pos hz] at h
      cases k with
      | zero => obtain rfl : a = x := by simpa using h1
                obtain rfl : m = n := by simpa using h0
                exact hz
      | succ k => exact datEF_zero t r h k n x (by simpa using h0) (by simpa using h1)
    · rw [if_neg hz] at h; exact absurd h hz
def bareB (d:Dt) (a b c e:Bool):Bool:=(a || !d.no) && (b || !hasV d.v) && (c || d.l.isEmpty) && (e || d.f.isEmpty)
theorem datE_none {n:Nd} {d:Dt} (h2:n.rep = 2) (h3:d.no = true):datE n false d = if bareB d true false false false = true then 0 else 3:=by
 rw [datE_eq];unfold bareB
 rw [if_pos (by simp [h2,h3])]
 cases hasV d.v <;> cases d.l.isEmpty <;> cases d.f.isEmpty <;> simp
theorem datE_list {n:Nd} {d:Dt} (h3:n.rep = 3):datE n false d = if bareB d false false true false = true then (if 40 < d.l.length then 2 else datEL n d.l) else 3:=by
 rw [datE_eq];unfold bareB
 rw [if_neg (by simp [h3])]
 cases d.no <;> cases hasV d.v <;> cases d.f.isEmpty <;> simp [h3]
def lonely (n:Nd) (one:Bool) (d:Dt):Prop:=one = true ∨ n.rep = 1 ∨ (n.rep = 2 ∧ d.no = false)
theorem datE_leaf {n:Nd} {one:Bool} {d:Dt} (h:lonely n one d) (hk:n.kind ≠ 0):datE n one d = if bareB d false true false false = true then (if okB n.kind d.v = true then 0 else 4) else 3:=by
 rw [datE_eq];unfold bareB
 rcases h with rfl | h | ⟨h,h0⟩
 ·cases d.no <;> cases d.l.isEmpty <;> cases d.f.isEmpty <;> simp [hk]
 ·cases d.no <;> cases d.l.isEmpty <;> cases d.f.isEmpty <;> simp [hk,h]
 ·cases d.l.isEmpty <;> cases d.f.isEmpty <;> simp [hk,h,h0]
theorem datE_group {n:Nd} {one:Bool} {d:Dt} (h:lonely n one d) (hk:n.kind = 0):datE n one d = if bareB d false false false true = true then (if d.f.length = n.sub.length then datEF n.sub d.f else 3) else 3:=by
 rw [datE_eq];unfold bareB
 rcases h with rfl | h | ⟨h,h0⟩
 ·cases d.no <;> cases d.l.isEmpty <;> cases hasV d.v <;> by_cases hf:d.f.length = n.sub.length <;> simp [hk,hf]
 ·cases d.no <;> cases d.l.isEmpty <;> cases hasV d.v <;> by_cases hf:d.f.length = n.sub.length <;> simp [hk,h,hf]
 ·cases d.l.isEmpty <;> cases hasV d.v <;> by_cases hf:d.f.length = n.sub.length <;> simp [hk,h,h0,hf]
end Go.Proofs.YtdcgihplkangeaaGreatDoor
