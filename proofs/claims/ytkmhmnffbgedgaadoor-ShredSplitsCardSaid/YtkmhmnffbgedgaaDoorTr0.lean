/- Trees of nodes: plain Lean (Valid's and SchemaError's answer are the same). -/
import Derived.Test.YtkmhmnffbgedgaaDoorMPlain
namespace Go.Proofs.YtkmhmnffbgedgaaDoor
set_option linter.unusedVariables false
open Go Go.RowKit
inductive Nd where
 | mk (id:Int) (name:ByteArray) (rep kind:Int) (sub:List Nd)
namespace Nd
def id:Nd → Int | .mk a _ _ _ _=>a
def name:Nd → ByteArray | .mk _ b _ _ _=>b
def rep:Nd → Int | .mk _ _ c _ _=>c
def kind:Nd → Int | .mk _ _ _ d _=>d
def sub:Nd → List Nd | .mk _ _ _ _ l=>l
theorem ind {P:Nd → Prop} (h:∀ n,(∀ x ∈ n.sub,P x) → P n):∀ n,P n
 | .mk a b c d l=>h _ fun x hx=>ind h x
termination_by n=>SizeOf.sizeOf n
decreasing_by
 have:=List.sizeOf_lt_of_mem (show x ∈ l from hx)
 simp only [Nd.mk.sizeOf_spec];omega
end Nd
mutual
def pre:Nd → Int → List (Nd × Int)
 | .mk a b c d l,k=>(.mk a b c d l,k) :: preL l (wrap64 (k + 1))
def preL:List Nd → Int → List (Nd × Int)
 | [],_=>[]
 | x :: r,k=>pre x k ++ preL r k
end
theorem pre_eq (n:Nd) (k:Int):pre n k = (n,k) :: preL n.sub (wrap64 (k + 1)):=by cases n;simp only [pre];rfl
theorem preL_app (a b:List Nd) (k:Int):preL (a ++ b) k = preL a k ++ preL b k:=by
 induction a with
 | nil=>rfl
 | cons x r ih=>simp only [List.cons_append,preL,ih,List.append_assoc]
def runF {σ:Type} (f:Nd → Int → σ → Bool × σ):List (Nd × Int) → σ → Bool × σ
 | [],s=>(true,s)
 | (n,k) :: r,s=>if (f n k s).1 then runF f r (f n k s).2 else (false,(f n k s).2)
theorem runF_app {σ:Type} (f:Nd → Int → σ → Bool × σ) (a b:List (Nd × Int)) (s:σ):runF f (a ++ b) s = if (runF f a s).1 then runF f b (runF f a s).2 else (false,(runF f a s).2):=by
 induction a generalizing s with
 | nil=>simp [runF]
 | cons x r ih =>
  obtain ⟨n,k⟩:=x
  simp only [List.cons_append,runF]
  by_cases h:(f n k s).1 = true
  ·simp only [h,if_true];exact ih _
  ·simp only [h];simp
mutual
def size:Nd → Nat
 | .mk _ _ _ _ l=>1 + sizeL l
def sizeL:List Nd → Nat
 | []=>0
 | x :: r=>size x + sizeL r
end
mutual
def hgt:Nd → Nat
 | .mk _ _ _ _ l=>1 + hgtL l
def hgtL:List Nd → Nat
 | []=>0
 | x :: r=>max (hgt x) (hgtL r)
end
mutual
def nodes:Nd → List Nd
 | .mk a b c d l=>.mk a b c d l :: nodesL l
def nodesL:List Nd → List Nd
 | []=>[]
 | x :: r=>nodes x ++ nodesL r
end
theorem size_eq (n:Nd):size n = 1 + sizeL n.sub:=by cases n;simp only [size];rfl
theorem hgt_eq (n:Nd):hgt n = 1 + hgtL n.sub:=by cases n;simp only [hgt];rfl
theorem nodes_eq (n:Nd):nodes n = n :: nodesL n.sub:=by cases n;simp only [nodes];rfl
theorem tree2 {P:Nd → Prop} {Q:List Nd → Prop} (h0:∀ n,Q n.sub → P n) (h1:Q []) (h2:∀ x r,P x → Q r → Q (x :: r)):(∀ n,P n) ∧ ∀ l,Q l:=by
 have hp:∀ n,P n:=by
  apply Nd.ind
  intro n ih
  apply h0
  generalize n.sub = l at ih
  induction l with
  | nil=>exact h1
  | cons x r ihr=>exact h2 x r (ih x (List.mem_cons_self ..)) (ihr fun y hy=>ih y (List.mem_cons_of_mem _ hy))
 refine ⟨hp,fun l=>?_⟩
 induction l with
 | nil=>exact h1
 | cons x r ihr=>exact h2 x r (hp x) ihr
theorem size_len:(∀ n,(nodes n).length = size n) ∧ ∀ l,(nodesL l).length = sizeL l:=by
 refine tree2 (fun n h=>?_) rfl (fun x r h1 h2=>?_)
 ·rw [nodes_eq,size_eq,List.length_cons,h];omega
 ·simp only [nodesL,sizeL,List.length_append,h1,h2]
structure Pl where
 n:Nd
 deep:Int
 around:Int
mutual
def flatF:List Pl → Nd → Int → Int → List Pl
 | l,.mk a b c d sub,k,ar=>if 2000 < l.length ∨ 100 < k then l else flatFL (l ++ [⟨.mk a b c d sub,k,ar⟩]) sub (k + 1) l.length
def flatFL:List Pl → List Nd → Int → Int → List Pl
 | l,[],_,_=>l
 | l,x :: r,k,ar=>flatFL (flatF l x k ar) r k ar
end
mutual
def plc:Nat → Nd → Int → Int → List Pl
 | p,.mk a b c d sub,k,ar=>⟨.mk a b c d sub,k,ar⟩ :: plcL (p + 1) sub (k + 1) p
def plcL:Nat → List Nd → Int → Int → List Pl
 | _,[],_,_=>[]
 | p,x :: r,k,ar=>plc p x k ar ++ plcL (p + size x) r k ar
end
theorem flatF_eq (l:List Pl) (n:Nd) (k ar:Int):flatF l n k ar = if 2000 < l.length ∨ 100 < k then l else flatFL (l ++ [⟨n,k,ar⟩]) n.sub (k + 1) l.length:=by cases n;simp only [flatF];rfl
theorem plc_eq (p:Nat) (n:Nd) (k ar:Int):plc p n k ar = ⟨n,k,ar⟩ :: plcL (p + 1) n.sub (k + 1) p:=by cases n;simp only [plc];rfl
theorem plc_nodes:(∀ n,∀ p k ar,(plc p n k ar).map Pl.n = nodes n) ∧ ∀ l,∀ p k ar,(plcL p l k ar).map Pl.n = nodesL l:=by
 refine tree2 (fun n h p k ar=>?_) (fun p k ar=>rfl) (fun x r h1 h2 p k ar=>?_)
 ·rw [plc_eq,nodes_eq,List.map_cons,h]
 ·simp only [plcL,nodesL,List.map_append,h1,h2]
theorem plc_len (n:Nd) (p:Nat) (k ar:Int):(plc p n k ar).length = size n:=by rw [← size_len.1,← plc_nodes.1 n p k ar,List.length_map]
theorem plcL_len (l:List Nd) (p:Nat) (k ar:Int):(plcL p l k ar).length = sizeL l:=by rw [← size_len.2,← plc_nodes.2 l p k ar,List.length_map]
theorem flat_pre:(∀ n,∀ l k ar,l <+: flatF l n k ar) ∧ ∀ s,∀ l k ar,l <+: flatFL l s k ar:=by
 refine tree2 (fun n h l k ar=>?_) (fun l k ar=>?_) (fun x r h1 h2 l k ar=>?_)
 ·rw [flatF_eq]
  split
  ·exact List.prefix_refl _
  ·exact (List.prefix_append l _).trans (h _ _ _)
 ·simp only [flatFL];exact List.prefix_refl _
 ·simp only [flatFL];exact (h1 _ _ _).trans (h2 _ _ _)
theorem flat_small:(∀ n,∀ (l:List Pl) (k ar:Int),l.length + size n ≤ 2001 → k + hgt n ≤ 101 → flatF l n k ar = l ++ plc l.length n k ar) ∧
  ∀ s,∀ (l:List Pl) (k ar:Int),l.length + sizeL s ≤ 2001 → k + hgtL s ≤ 101 → flatFL l s k ar = l ++ plcL l.length s k ar:=by
 refine tree2 (fun n h l k ar h1 h2=>?_) (fun l k ar _ _=>?_) (fun x r ih1 ih2 l k ar h1 h2=>?_)
 ·rw [size_eq] at h1;rw [hgt_eq] at h2
  rw [flatF_eq,if_neg (by omega),h _ _ _ (by simp;omega) (by omega),plc_eq]
  simp
 ·simp [flatFL,plcL]
 ·simp only [sizeL] at h1;simp only [hgtL] at h2
  simp only [flatFL,plcL]
  rw [ih1 l k ar (by omega) (by omega),ih2 _ k ar (by simp [plc_len];omega) (by omega)]
  simp [plc_len]
theorem flat_good:(∀ n,∀ (l:List Pl) (k ar:Int),k ≤ 7 → (flatF l n k ar).length ≤ 40 → (∀ p ∈ flatF l n k ar,p.deep ≤ 6) → l.length + size n ≤ 40 ∧ k + hgt n ≤ 7) ∧
  ∀ s,∀ (l:List Pl) (k ar:Int),k ≤ 7 → (flatFL l s k ar).length ≤ 40 → (∀ p ∈ flatFL l s k ar,p.deep ≤ 6) → l.length + sizeL s ≤ 40 ∧ k + hgtL s ≤ 7:=by
 refine tree2 (fun n h l k ar hk h1 h2=>?_) (fun l k ar hk h1 h2=>?_) (fun x r ih1 ih2 l k ar hk h1 h2=>?_)
 ·have hl:=(flat_pre.1 n l k ar).length_le
  have hn:¬ (2000 < l.length ∨ 100 < k):=by omega
  rw [flatF_eq,if_neg hn] at h1 h2
  have hm:(⟨n,k,ar⟩:Pl) ∈ flatFL (l ++ [⟨n,k,ar⟩]) n.sub (k + 1) l.length:=(flat_pre.2 n.sub (l ++ [⟨n,k,ar⟩]) (k + 1) l.length).subset (by simp)
  have h6:=h2 _ hm
  simp only at h6
  have:=h _ _ _ (by omega) h1 h2
  rw [size_eq,hgt_eq]
  simp only [List.length_append,List.length_cons,List.length_nil] at this
  omega
 ·simp only [flatFL] at h1;simp only [sizeL,hgtL];omega
 ·simp only [flatFL] at h1 h2
  have hp:=flat_pre.2 r (flatF l x k ar) k ar
  have a:=ih1 l k ar hk (Nat.le_trans hp.length_le h1) (fun p hp'=>h2 p (hp.subset hp'))
  have e:flatF l x k ar = l ++ plc l.length x k ar:=flat_small.1 x l k ar (by omega) (by omega)
  have b:=ih2 _ k ar hk h1 h2
  rw [e,List.length_append,plc_len] at b
  simp only [sizeL,hgtL]
  omega
def goodB (n:Nd):Bool:=decide (size n ≤ 40 ∧ hgt n ≤ 6)
theorem plc_deep:(∀ n,∀ p (k ar:Int),∀ q ∈ plc p n k ar,k ≤ q.deep ∧ q.deep + 1 ≤ k + hgt n) ∧ ∀ l,∀ p (k ar:Int),∀ q ∈ plcL p l k ar,k ≤ q.deep ∧ q.deep + 1 ≤ k + hgtL l:=by
 refine tree2 (fun n h p k ar q hq=>?_) (fun p k ar q hq=>?_) (fun x r h1 h2 p k ar q hq=>?_)
 ·rw [plc_eq] at hq;rw [hgt_eq]
  rcases List.mem_cons.1 hq with rfl | hq
  ·simp only;omega
  ·have:=h _ _ _ q hq;omega
 ·simp [plcL] at hq
 ·simp only [plcL,List.mem_append] at hq
  simp only [hgtL]
  rcases hq with hq | hq
  ·have:=h1 _ _ _ q hq;omega
  ·have:=h2 _ _ _ q hq;omega
theorem flat_of_good {n:Nd} (h:goodB n = true):flatF [] n 1 (-1) = plc 0 n 1 (-1):=by
 unfold goodB at h;rw [decide_eq_true_iff] at h
 rw [flat_small.1 n [] 1 (-1) (by simp;omega) (by omega)];rfl
theorem good_flat (n:Nd):(decide ((flatF [] n 1 (-1)).length ≤ 40) && (flatF [] n 1 (-1)).all fun p=>decide (p.deep ≤ 6)) = goodB n:=by
 rw [Bool.eq_iff_iff,Bool.and_eq_true,decide_eq_true_eq,List.all_eq_true]
 constructor
 ·intro ⟨h1,h2⟩
  have:=flat_good.1 n [] 1 (-1) (by omega) h1 fun p hp=>by simpa using h2 p hp
  unfold goodB;rw [decide_eq_true_iff]
  simp at this;omega
 ·intro h
  rw [flat_of_good h]
  unfold goodB at h;rw [decide_eq_true_iff] at h
  refine ⟨by rw [plc_len];omega,fun p hp=>?_⟩
  have:=plc_deep.1 n 0 1 (-1) p hp
  rw [decide_eq_true_iff];omega
def cntF (n:Nd) (k:Int) (s:Int):Bool × Int:=(decide (wrap64 (s + 1) ≤ 40) && decide (k ≤ 6),wrap64 (s + 1))
theorem cnt_any:(∀ n,∀ k s:Int,-100 ≤ k → k ≤ 7 → 0 ≤ s → s ≤ 40 → (runF cntF (pre n k) s).1 = decide (s + size n ≤ 40 ∧ k + hgt n ≤ 7) ∧ ((runF cntF (pre n k) s).1 = true → (runF cntF (pre n k) s).2 = s + size n)) ∧
  ∀ l,∀ k s:Int,-100 ≤ k → k ≤ 7 → 0 ≤ s → s ≤ 40 → (runF cntF (preL l k) s).1 = decide (s + sizeL l ≤ 40 ∧ k + hgtL l ≤ 7) ∧ ((runF cntF (preL l k) s).1 = true → (runF cntF (preL l k) s).2 = s + sizeL l):=by
 refine tree2 (fun n h k s hk0 hk hs0 hs=>?_) (fun k s hk0 hk hs0 hs=>?_) (fun x r h1 h2 k s hk0 hk hs0 hs=>?_)
 ·rw [pre_eq,size_eq,hgt_eq]
  simp only [runF]
  have hw':wrap64 (s + 1) = s + 1:=by unfold wrap64;omega
  by_cases hc:s + 1 ≤ 40 ∧ k ≤ 6
  ·have hw:wrap64 (k + 1) = k + 1:=by unfold wrap64;omega
   obtain ⟨a,b⟩:=h (k + 1) (s + 1) (by omega) (by omega) (by omega) (by omega)
   have e:(cntF n k s).1 = true:=by simp [cntF,hc,hw']
   have e2:(cntF n k s).2 = s + 1:=by simp [cntF,hw']
   rw [if_pos e,hw,e2]
   show (runF cntF (preL n.sub (k + 1)) (s + 1)).1 = _ ∧ ((runF cntF (preL n.sub (k + 1)) (s + 1)).1 = true → (runF cntF (preL n.sub (k + 1)) (s + 1)).2 = _)
   rw [a] at b ⊢
   refine ⟨?_,fun h=>?_⟩
   ·congr 1;apply propext;omega
   ·rw [b h];omega
  ·have e:(cntF n k s).1 = false:=by simp only [cntF,hw'];rw [Bool.and_eq_false_iff,decide_eq_false_iff_not,decide_eq_false_iff_not];omega
   rw [e]
   simp only [Bool.false_eq_true,if_false,false_implies,and_true]
   exact (decide_eq_false fun h=>hc (by omega)).symm
 ·simp only [preL,runF,sizeL,hgtL]
  exact ⟨(decide_eq_true ⟨by omega,by omega⟩).symm,fun _=>by omega⟩
 ·simp only [preL,sizeL,hgtL]
  rw [runF_app]
  obtain ⟨a,b⟩:=h1 k s hk0 hk hs0 hs
  by_cases hc:s + size x ≤ 40 ∧ k + hgt x ≤ 7
  ·have e:(runF cntF (pre x k) s).1 = true:=by rw [a];exact decide_eq_true hc
   rw [if_pos e,b e]
   obtain ⟨c,d⟩:=h2 k (s + size x) hk0 hk (by omega) (by omega)
   rw [c] at d ⊢
   refine ⟨?_,fun h=>?_⟩
   ·congr 1;apply propext;omega
   ·rw [d h];omega
  ·have e:(runF cntF (pre x k) s).1 = false:=by rw [a];exact decide_eq_false hc
   rw [e]
   simp only [Bool.false_eq_true,if_false,false_implies,and_true]
   exact (decide_eq_false fun h=>hc (by omega)).symm
theorem good_cnt (n:Nd):(runF cntF (pre n 1) 0).1 = goodB n:=by
 rw [(cnt_any.1 n 1 0 (by omega) (by omega) (by omega) (by omega)).1]
 unfold goodB
 congr 1;apply propext;omega
end Go.Proofs.YtkmhmnffbgedgaaDoor
/- Trees of nodes: plain Lean: a schema is right for the program where it is right for the document. -/
namespace Go.Proofs.YtkmhmnffbgedgaaDoor
set_option linter.unusedVariables false
open Go Go.RowKit
def isNm (s:ByteArray):Bool:=!s.data.toList.isEmpty && decide (s.size ≤ 12) && s.data.toList.all fun c=>decide (97 ≤ c.toNat ∧ c.toNat ≤ 122)
def rootName:ByteArray:=⟨#[114,111,111,116]⟩
def rootOk (n:Nd):Bool:=decide (n.id = 0) && decide (n.name = rootName) && decide (n.rep = 1) && decide (n.kind = 0) && !n.sub.isEmpty
def okShape (n:Nd):Bool:=decide (1 ≤ n.rep) && decide (n.rep ≤ 3) && decide (0 ≤ n.kind) && decide (n.kind ≤ 5) && (decide (n.kind ≠ 0) == n.sub.isEmpty)
def namesR:List ByteArray → List Nd → Bool
 | _,[]=>true
 | s,x :: r=>(isNm x.name && !s.any fun y=>decide (y = x.name)) && namesR (s ++ [x.name]) r
def idsG (n:Nd) (s:List Int):Bool × List Int:=(decide (1 ≤ n.id) && decide (n.id ≤ 1000) && !decide (n.id ∈ s),s ++ [n.id])
def runG {σ:Type} (g:Nd → σ → Bool × σ):List Nd → σ → Bool × σ
 | [],s=>(true,s)
 | n :: r,s=>if (g n s).1 then runG g r (g n s).2 else (false,(g n s).2)
theorem runG_of {σ:Type} (f:Nd → Int → σ → Bool × σ) (g:Nd → σ → Bool × σ):∀ (L:List (Nd × Int)) (s:σ),(∀ x ∈ L,∀ t,f x.1 x.2 t = g x.1 t) → runF f L s = runG g (L.map Prod.fst) s
 | [],s,h=>rfl
 | (n,k) :: r,s,h=>by
  have h1:f n k s = g n s:=h (n,k) (List.mem_cons_self ..) s
  simp only [runF,runG,List.map_cons,h1]
  rw [runG_of f g r _ fun x hx=>h x (List.mem_cons_of_mem _ hx)]
theorem pre_nodes:(∀ n,∀ k,(pre n k).map Prod.fst = nodes n) ∧ ∀ l,∀ k,(preL l k).map Prod.fst = nodesL l:=by
 refine tree2 (fun n h k=>?_) (fun k=>rfl) (fun x r h1 h2 k=>?_)
 ·rw [pre_eq,nodes_eq,List.map_cons,h]
 ·simp only [preL,nodesL,List.map_append,h1,h2]
theorem pre_deep:(∀ n,∀ k:Int,1 ≤ k → k + hgt n ≤ 1000 → ∀ x ∈ pre n k,1 ≤ x.2) ∧ ∀ l,∀ k:Int,1 ≤ k → k + hgtL l ≤ 1000 → ∀ x ∈ preL l k,1 ≤ x.2:=by
 refine tree2 (fun n h k h1 h2 x hx=>?_) (fun k h1 h2 x hx=>?_) (fun y r ih1 ih2 k h1 h2 x hx=>?_)
 ·rw [hgt_eq] at h2
  have hw:wrap64 (k + 1) = k + 1:=by unfold wrap64;omega
  rw [pre_eq,hw] at hx
  rcases List.mem_cons.1 hx with rfl | hx
  ·exact h1
  ·exact h (k + 1) (by omega) (by omega) x hx
 ·simp [preL] at hx
 ·simp only [hgtL] at h2
  simp only [preL,List.mem_append] at hx
  rcases hx with hx | hx
  ·exact ih1 k h1 (by omega) x hx
  ·exact ih2 k h1 (by omega) x hx
theorem runG_all {σ:Type} (p:Nd → Bool):∀ (l:List Nd) (s:σ),(runG (fun n s=>(p n,s)) l s).1 = l.all p
 | [],s=>rfl
 | n :: r,s=>by
  simp only [runG,List.all_cons]
  by_cases h:p n = true
  ·rw [if_pos h,runG_all p r,h,Bool.true_and]
  ·rw [if_neg h];simp [h]
theorem run_below {σ:Type} (f:Nd → Int → σ → Bool × σ) (g:Nd → σ → Bool × σ) (n:Nd) (s:σ) (hg:goodB n = true) (h0:f n 0 s = (true,s)) (h:∀ x k t,1 ≤ k → f x k t = g x t):runF f (pre n 0) s = runG g (nodesL n.sub) s:=by
 unfold goodB at hg;rw [decide_eq_true_iff,hgt_eq] at hg
 have hw:wrap64 (0 + 1) = 1:=by unfold wrap64;omega
 rw [pre_eq,hw]
 simp only [runF,h0,if_true]
 rw [runG_of f g _ _ fun x hx t=>h x.1 x.2 t (pre_deep.2 n.sub 1 (by omega) (by omega) x hx),pre_nodes.2]
theorem run_all {σ:Type} (f:Nd → Int → σ → Bool × σ) (g:Nd → σ → Bool × σ) (n:Nd) (k:Int) (s:σ) (h:∀ x k t,f x k t = g x t):runF f (pre n k) s = runG g (nodes n) s:=by
 rw [runG_of f g _ _ fun x _ t=>h x.1 x.2 t,pre_nodes.1]
def validE (n:Nd):Nat :=
 if goodB n then (if rootOk n then (if (nodesL n.sub).all okShape then (if (nodes n).all (fun x=>namesR [] x.sub) then (if (runG idsG (nodesL n.sub) []).1 then 0 else 5) else 5) else 3) else 3) else 2
end Go.Proofs.YtkmhmnffbgedgaaDoor
