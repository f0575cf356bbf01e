/- Trees of nodes: plain Lean: leaves; which leaf is read next. -/
import Derived.Test.YtkmhmnffbgedgaaDoorTr0
import Derived.Test.YtkmhmnffbgedgaaDoorMVal
import Derived.Test.YtkmhmnffbgedgaaDoorTw0
import Derived.Test.YtkmhmnffbgedgaaDoorTv2
namespace Go.Proofs.YtkmhmnffbgedgaaDoor
set_option linter.unusedVariables false
set_option linter.unusedSimpArgs false
open Go Go.RowKit
mutual
def chn:Nd → List Nd → List (List Nd)
 | .mk a b c d l,h=>(h ++ [.mk a b c d l]) :: chnL l (h ++ [.mk a b c d l])
def chnL:List Nd → List Nd → List (List Nd)
 | [],_=>[]
 | x :: r,h=>chn x h ++ chnL r h
end
theorem chn_eq (n:Nd) (h:List Nd):chn n h = (h ++ [n]) :: chnL n.sub (h ++ [n]):=by cases n;simp only [chn];rfl
theorem chn_len:(∀ n,∀ h,(chn n h).length = size n) ∧ ∀ l,∀ h,(chnL l h).length = sizeL l:=by
 refine tree2 (fun n ih h=>?_) (fun h=>rfl) (fun x r h1 h2 h=>?_)
 ·rw [chn_eq,size_eq,List.length_cons,ih];omega
 ·simp only [chnL,sizeL,List.length_append,h1,h2]
def Chd:List (List Nd) → List Pl → List (List Nd) → Prop
 | _,[],[]=>True
 | C,e :: E,d :: D=>(∃ a:Nat,e.around = a ∧ a < C.length ∧ d = (C[a]?).getD [] ++ [e.n]) ∧ Chd (C ++ [d]) E D
 | _,_,_=>False
theorem Chd.app:∀ (C:List (List Nd)) (A B:List Pl) (DA DB:List (List Nd)),Chd C A DA → Chd (C ++ DA) B DB → Chd C (A ++ B) (DA ++ DB)
 | C,[],B,[],DB,_,h2=>by simpa using h2
 | C,e :: E,B,d :: D,DB,h1,h2=>by
  simp only [List.cons_append,Chd] at h1 ⊢
  exact ⟨h1.1,Chd.app _ E B D DB h1.2 (by simpa using h2)⟩
 | C,[],B,d :: D,DB,h1,_=>by simp [Chd] at h1
 | C,e :: E,B,[],DB,h1,_=>by simp [Chd] at h1
theorem chd_plc:(∀ n,∀ (q:Nat) (k:Int) (a:Nat) (C:List (List Nd)) (h:List Nd),C.length = q → a < q → C[a]? = some h → Chd C (plc q n k a) (chn n h)) ∧
  ∀ l,∀ (q:Nat) (k:Int) (a:Nat) (C:List (List Nd)) (h:List Nd),C.length = q → a < q → C[a]? = some h → Chd C (plcL q l k a) (chnL l h):=by
 refine tree2 (fun n ih q k a C h hC ha hg=>?_) (fun q k a C h hC ha hg=>?_) (fun x r h1 h2 q k a C h hC ha hg=>?_)
 ·rw [plc_eq,chn_eq]
  refine ⟨⟨a,rfl,by omega,by rw [hg];rfl⟩,?_⟩
  exact ih (q + 1) (k + 1) q _ _ (by simp [hC]) (by omega) (by rw [List.getElem?_append_right (by omega),hC];simp)
 ·simp [plcL,chnL,Chd]
 ·simp only [plcL,chnL]
  refine Chd.app _ _ _ _ _ (h1 q k a C h hC ha hg) ?_
  exact h2 (q + size x) k a _ h (by rw [List.length_append,chn_len.1,hC]) (by omega) (by rw [List.getElem?_append_left (by omega)];exact hg)
theorem Chd.at:∀ (E:List Pl) (C D:List (List Nd)),Chd C E D → D.length = E.length ∧ ∀ (j:Nat) (e:Pl),E[j]? = some e → ∃ (a:Nat) (d:List Nd),e.around = a ∧ a < C.length + j ∧ D[j]? = some (d ++ [e.n]) ∧ (C ++ D)[a]? = some d
 | [],C,[],h=>⟨rfl,fun j e he=>by simp at he⟩
 | [],C,d :: D,h=>by simp [Chd] at h
 | e :: E,C,[],h=>by simp [Chd] at h
 | e :: E,C,d :: D,h=>by
  obtain ⟨⟨a,h1,h2,h3⟩,h4⟩:=h
  obtain ⟨i1,i2⟩:=Chd.at E (C ++ [d]) D h4
  refine ⟨by simp [i1],fun j e' he=>?_⟩
  cases j with
  | zero =>
   simp only [List.getElem?_cons_zero,Option.some.injEq] at he
   subst he
   refine ⟨a,(C[a]?).getD [],h1,by omega,by simp [h3],?_⟩
   rw [List.getElem?_append_left h2,List.getElem?_eq_getElem h2];rfl
  | succ j =>
   obtain ⟨a',d',k1,k2,k3,k4⟩:=i2 j e' (by simpa using he)
   refine ⟨a',d',k1,?_,by simpa using k3,?_⟩
   ·simp only [List.length_append,List.length_cons,List.length_nil] at k2;omega
   ·rw [← k4];simp
def reps (h:List Nd):Int:=((h.filter fun n=>decide (n.rep = 3)).length:Nat)
def opts (h:List Nd):Int:=((h.filter fun n=>decide (n.rep ≠ 1)).length:Nat)
def idsOf (h:List Nd):List Int:=h.map Nd.id
def rlOf (h:List Nd):List Int:=(h.filter fun n=>decide (n.rep = 3)).map Nd.id
structure Lvf where
 id:Int
 kind:Int
 mr:Int
 md:Int
 path:List Int
def lvOf (x:Nd × List Nd):Option Lvf:=if x.1.kind = 0 then none else some ⟨x.1.id,x.1.kind,reps x.2,opts x.2,idsOf x.2⟩
mutual
def lvN:Nd → Int → Int → List Int → List Lvf
 | .mk a b c d l,mr,md,p=>if d = 0 then lvL l (if c = 3 then mr + 1 else mr) (if c ≠ 1 then md + 1 else md) (p ++ [a]) else [⟨a,d,if c = 3 then mr + 1 else mr,if c ≠ 1 then md + 1 else md,p ++ [a]⟩]
def lvL:List Nd → Int → Int → List Int → List Lvf
 | [],_,_,_=>[]
 | x :: r,mr,md,p=>lvN x mr md p ++ lvL r mr md p
end
theorem lvN_eq (n:Nd) (mr md:Int) (p:List Int):lvN n mr md p = if n.kind = 0 then lvL n.sub (if n.rep = 3 then mr + 1 else mr) (if n.rep ≠ 1 then md + 1 else md) (p ++ [n.id]) else [⟨n.id,n.kind,if n.rep = 3 then mr + 1 else mr,if n.rep ≠ 1 then md + 1 else md,p ++ [n.id]⟩]:=by cases n;simp only [lvN];rfl
theorem reps_snoc (h:List Nd) (n:Nd):reps (h ++ [n]) = if n.rep = 3 then reps h + 1 else reps h:=by
 unfold reps
 rw [List.filter_append,List.length_append]
 by_cases e:n.rep = 3 <;> simp [List.filter_cons,e]
theorem opts_snoc (h:List Nd) (n:Nd):opts (h ++ [n]) = if n.rep ≠ 1 then opts h + 1 else opts h:=by
 unfold opts
 rw [List.filter_append,List.length_append]
 by_cases e:n.rep = 1 <;> simp [List.filter_cons,e]
theorem rlOf_snoc (h:List Nd) (n:Nd):rlOf (h ++ [n]) = if n.rep = 3 then rlOf h ++ [n.id] else rlOf h:=by
 unfold rlOf
 rw [List.filter_append,List.map_append]
 by_cases e:n.rep = 3 <;> simp [List.filter_cons,e]
def shaped (n:Nd):Prop:=n.kind ≠ 0 → n.sub = []
theorem lv_chn:(∀ n,∀ h:List Nd,(∀ x ∈ nodes n,shaped x) → lvN n (reps h) (opts h) (idsOf h) = ((nodes n).zip (chn n h)).filterMap lvOf) ∧
  ∀ l,∀ h:List Nd,(∀ x ∈ nodesL l,shaped x) → lvL l (reps h) (opts h) (idsOf h) = ((nodesL l).zip (chnL l h)).filterMap lvOf:=by
 refine tree2 (fun n ih h hs=>?_) (fun h hs=>rfl) (fun x r h1 h2 h hs=>?_)
 ·rw [lvN_eq,nodes_eq,chn_eq,List.zip_cons_cons,List.filterMap_cons]
  rw [nodes_eq] at hs
  have e1:idsOf h ++ [n.id] = idsOf (h ++ [n]):=by simp [idsOf]
  rw [← reps_snoc,← opts_snoc,e1]
  by_cases hk:n.kind = 0
  ·rw [if_pos hk,ih _ fun x hx=>hs x (List.mem_cons_of_mem _ hx)]
   simp [lvOf,hk]
  ·have hn:=hs n (List.mem_cons_self ..) hk
   rw [if_neg hk,hn]
   simp [lvOf,hk,nodesL]
 ·simp only [lvL,nodesL,chnL] at hs ⊢
  rw [h1 h fun y hy=>hs y (List.mem_append_left _ hy),h2 h fun y hy=>hs y (List.mem_append_right _ hy),List.zip_append (by rw [size_len.1,chn_len.1]),List.filterMap_append]
def leavesN (n:Nd):List Lvf:=lvL n.sub 0 0 []
mutual
def lsN:Nd → List Int → List (List Int)
 | .mk a b c d l,p=>if d = 0 then lsL l (if c = 3 then p ++ [a] else p) else [if c = 3 then p ++ [a] else p]
def lsL:List Nd → List Int → List (List Int)
 | [],_=>[]
 | x :: r,p=>lsN x p ++ lsL r p
end
theorem lsN_eq (n:Nd) (p:List Int):lsN n p = if n.kind = 0 then lsL n.sub (if n.rep = 3 then p ++ [n.id] else p) else [if n.rep = 3 then p ++ [n.id] else p]:=by cases n;simp only [lsN];rfl
def lsOf (x:Nd × List Nd):Option (List Int):=if x.1.kind = 0 then none else some (rlOf x.2)
theorem ls_chn:(∀ n,∀ h:List Nd,(∀ x ∈ nodes n,shaped x) → lsN n (rlOf h) = ((nodes n).zip (chn n h)).filterMap lsOf) ∧
  ∀ l,∀ h:List Nd,(∀ x ∈ nodesL l,shaped x) → lsL l (rlOf h) = ((nodesL l).zip (chnL l h)).filterMap lsOf:=by
 refine tree2 (fun n ih h hs=>?_) (fun h hs=>rfl) (fun x r h1 h2 h hs=>?_)
 ·rw [lsN_eq,nodes_eq,chn_eq,List.zip_cons_cons,List.filterMap_cons]
  rw [nodes_eq] at hs
  rw [← rlOf_snoc]
  by_cases hk:n.kind = 0
  ·rw [if_pos hk,ih _ fun x hx=>hs x (List.mem_cons_of_mem _ hx)]
   simp [lsOf,hk]
  ·have hn:=hs n (List.mem_cons_self ..) hk
   rw [if_neg hk,hn]
   simp [lsOf,hk,nodesL]
 ·simp only [lsL,nodesL,chnL] at hs ⊢
  rw [h1 h fun y hy=>hs y (List.mem_append_left _ hy),h2 h fun y hy=>hs y (List.mem_append_right _ hy),List.zip_append (by rw [size_len.1,chn_len.1]),List.filterMap_append]
def wayTo (n:Nd) (i:Nat):List Nd:=(([] :: chnL n.sub [])[i]?).getD []
theorem way_zero (n:Nd):wayTo n 0 = []:=rfl
theorem way_up (n:Nd) (i:Nat) (p:Pl) (h1:1 ≤ i) (hp:(plc 0 n 1 (-1))[i]? = some p):∃ a:Nat,p.around = a ∧ a < i ∧ wayTo n i = wayTo n a ++ [p.n]:=by
 rw [plc_eq] at hp
 obtain ⟨j,rfl⟩:∃ j,i = j + 1:=⟨i - 1,by omega⟩
 rw [List.getElem?_cons_succ] at hp
 have hc:=chd_plc.2 n.sub 1 2 0 [[]] [] rfl (by omega) rfl
 obtain ⟨_,h2⟩:=Chd.at _ _ _ hc
 obtain ⟨a,d,k1,k2,k3,k4⟩:=h2 j p (by simpa using hp)
 refine ⟨a,k1,by simp at k2;omega,?_⟩
 unfold wayTo
 rw [List.getElem?_cons_succ,k3]
 have k4':([] :: chnL n.sub [])[a]? = some d:=by simpa using k4
 rw [k4'];rfl
theorem way_len (n:Nd):∀ i,i < (plc 0 n 1 (-1)).length → (wayTo n i).length ≤ i:=by
 intro i
 induction i using Nat.strongRecOn with
 | ind i ih =>
  intro hi
  by_cases h0:i = 0
  ·subst h0;simp [way_zero]
  ·obtain ⟨a,h1,h2,h3⟩:=way_up n i _ (by omega) (List.getElem?_eq_getElem hi)
   rw [h3,List.length_append,List.length_cons,List.length_nil]
   have:=ih a h2 (by omega)
   omega
def lvAt (n:Nd) (F:List Pl) (q:Nat):Option Lvf:=if q = 0 then none else (F[q]?).bind fun p=>lvOf (p.n,wayTo n q)
theorem zip_range {α β γ:Type} (f:α × β → Option γ):∀ (l:List α) (m:List β),l.length = m.length → ((l.zip m).filterMap f) = (List.range l.length).filterMap fun q=>(l[q]?).bind fun a=>(m[q]?).bind fun b=>f (a,b)
 | [],[],_=>rfl
 | a :: l,b :: m,h=>by
  rw [List.zip_cons_cons,List.length_cons,List.range_succ_eq_map,List.filterMap_cons,List.filterMap_cons,List.filterMap_map,zip_range f l m (by simpa using h)]
  have e:(fun q=>((a :: l)[q]?).bind fun a=>((b :: m)[q]?).bind fun b=>f (a,b)) ∘ Nat.succ = fun q=>(l[q]?).bind fun a=>(m[q]?).bind fun b=>f (a,b):=by
   funext q;simp [Function.comp]
  rw [e]
  simp
 | [],b :: m,h=>by simp at h
 | a :: l,[],h=>by simp at h
theorem leaves_at (n:Nd) (hs:∀ x ∈ nodesL n.sub,shaped x):leavesN n = (List.range (plc 0 n 1 (-1)).length).filterMap (lvAt n (plc 0 n 1 (-1))):=by
 have h:=lv_chn.2 n.sub [] hs
 have e0:reps [] = 0 ∧ opts [] = 0 ∧ idsOf [] = []:=⟨rfl,rfl,rfl⟩
 rw [e0.1,e0.2.1,e0.2.2] at h
 unfold leavesN
 rw [h,zip_range _ _ _ (by rw [size_len.2,chn_len.2])]
 rw [plc_eq,List.length_cons,List.range_succ_eq_map,List.filterMap_cons,List.filterMap_map,plcL_len,← size_len.2]
 have e1:lvAt n (⟨n,1,-1⟩ :: plcL (0 + 1) n.sub (1 + 1) (0:Nat)) 0 = none:=rfl
 simp only [e1]
 congr 1
 funext q
 simp only [Function.comp,lvAt,Nat.succ_ne_zero,if_false,List.getElem?_cons_succ,wayTo]
 have e2:(nodesL n.sub)[q]? = ((plcL (0 + 1) n.sub (1 + 1) (0:Nat))[q]?).map Pl.n:=by rw [← plc_nodes.2 n.sub (0 + 1) (1 + 1) (0:Nat),List.getElem?_map]
 rw [e2]
 cases hx:(plcL (0 + 1) n.sub (1 + 1) (0:Nat))[q]? with
 | none=>rfl
 | some p =>
  have hq:=(List.getElem?_eq_some_iff.1 hx).1
  rw [plcL_len] at hq
  have hc:q < (chnL n.sub []).length:=by rw [chn_len.2];exact hq
  simp only [Option.map_some,Option.bind_some,List.getElem?_eq_getElem hc,Option.getD_some]
end Go.Proofs.YtkmhmnffbgedgaaDoor
/- Records (trees of datums): plain Lean: what is right for a node. -/
namespace Go.Proofs.YtkmhmnffbgedgaaDoor
set_option linter.unusedVariables false
set_option linter.unusedSimpArgs false
open Go Go.RowKit
inductive Dt where
 | mk (no:Bool) (v:Val) (l f:List Dt)
namespace Dt
def no:Dt → Bool | .mk a _ _ _=>a
def v:Dt → Val | .mk _ b _ _=>b
def l:Dt → List Dt | .mk _ _ c _=>c
def f:Dt → List Dt | .mk _ _ _ d=>d
theorem ind {P:Dt → Prop} (h:∀ d,(∀ x ∈ d.l,P x) → (∀ x ∈ d.f,P x) → P d):∀ d,P d
 | .mk a b c d=>h _ (fun x hx=>ind h x) (fun x hx=>ind h x)
termination_by d=>SizeOf.sizeOf d
decreasing_by
 ·have:=List.sizeOf_lt_of_mem (show x ∈ c from hx)
  simp only [Dt.mk.sizeOf_spec];omega
 ·have:=List.sizeOf_lt_of_mem (show x ∈ d from hx)
  simp only [Dt.mk.sizeOf_spec];omega
end Dt
def zeroV:Val:=⟨0,0,ByteArray.empty⟩
def hasV (x:Val):Bool:=!valEq x zeroV
mutual
def datE:Nd → Bool → Dt → Nat
 | n,one,.mk no v l f =>
  if (!one && decide (n.rep = 2) && no) = true then (if (hasV v || !l.isEmpty || !f.isEmpty) = true then 3 else 0)
  else if no = true then 3
  else if (!one && decide (n.rep = 3)) = true then (if (hasV v || !f.isEmpty) = true then 3 else if 40 < l.length then 2 else datEL n l)
  else if l.isEmpty = false then 3
  else if n.kind ≠ 0 then (if f.isEmpty = false then 3 else if okB n.kind v = true then 0 else 4)
  else if (hasV v || decide (f.length ≠ n.sub.length)) = true then 3
  else datEF n.sub f
def datEL:Nd → List Dt → Nat
 | _,[]=>0
 | n,x :: r=>if datE n true x = 0 then datEL n r else datE n true x
def datEF:List Nd → List Dt → Nat
 | [],_=>0
 | s :: t,[]=>0
 | s :: t,x :: r=>if datE s false x = 0 then datEF t r else datE s false x
end
theorem datE_eq (n:Nd) (one:Bool) (d:Dt):datE n one d =
  if (!one && decide (n.rep = 2) && d.no) = true then (if (hasV d.v || !d.l.isEmpty || !d.f.isEmpty) = true then 3 else 0)
  else if d.no = true then 3
  else if (!one && decide (n.rep = 3)) = true then (if (hasV d.v || !d.f.isEmpty) = true then 3 else if 40 < d.l.length then 2 else datEL n d.l)
  else if d.l.isEmpty = false then 3
  else if n.kind ≠ 0 then (if d.f.isEmpty = false then 3 else if okB n.kind d.v = true then 0 else 4)
  else if (hasV d.v || decide (d.f.length ≠ n.sub.length)) = true then 3
  else datEF n.sub d.f:=by
 cases d;simp only [datE];rfl
theorem datEL_take (n:Nd):∀ (l:List Dt) (k:Nat) (x:Dt),l[k]? = some x → (∀ (j:Nat) y,j < k → l[j]? = some y → datE n true y = 0) → datE n true x ≠ 0 → datEL n l = datE n true x
 | [],k,x,h,_,_=>by simp at h
 | a :: r,0,x,h,_,hx=>by
  obtain rfl:a = x:=by simpa using h
  simp only [datEL];rw [if_neg hx]
 | a :: r,k + 1,x,h,hj,hx=>by
  simp only [datEL]
  rw [if_pos (hj 0 a (by omega) rfl)]
  exact datEL_take n r k x (by simpa using h) (fun j y hjk hy=>hj (j + 1) y (by omega) (by simpa using hy)) hx
theorem datEL_all (n:Nd):∀ (l:List Dt),(∀ (j:Nat) y,l[j]? = some y → datE n true y = 0) → datEL n l = 0
 | [],_=>rfl
 | a :: r,h=>by
  simp only [datEL]
  rw [if_pos (h 0 a rfl)]
  exact datEL_all n r fun j y hy=>h (j + 1) y (by simpa using hy)
theorem datEF_take:∀ (s:List Nd) (l:List Dt) (k:Nat) (n:Nd) (x:Dt),s[k]? = some n → l[k]? = some x → (∀ (j:Nat) m y,j < k → s[j]? = some m → l[j]? = some y → datE m false y = 0) → datE n false x ≠ 0 → datEF s l = datE n false x
 | [],_,k,n,x,h,_,_,_=>by simp at h
 | m :: t,[],k,n,x,_,h,_,_=>by simp at h
 | m :: t,a :: r,0,n,x,h0,h,_,hx=>by
  obtain rfl:a = x:=by simpa using h
  obtain rfl:m = n:=by simpa using h0
  simp only [datEF];rw [if_neg hx]
 | m :: t,a :: r,k + 1,n,x,h0,h,hj,hx=>by
  simp only [datEF]
  rw [if_pos (hj 0 m a (by omega) rfl rfl)]
  exact datEF_take t r k n x (by simpa using h0) (by simpa using h) (fun j m2 y hjk hm hy=>hj (j + 1) m2 y (by omega) (by simpa using hm) (by simpa using hy)) hx
theorem datEF_all:∀ (s:List Nd) (l:List Dt),(∀ (j:Nat) m y,s[j]? = some m → l[j]? = some y → datE m false y = 0) → datEF s l = 0
 | [],_,_=>by simp [datEF]
 | m :: t,[],_=>by simp [datEF]
 | m :: t,a :: r,h=>by
  simp only [datEF]
  rw [if_pos (h 0 m a rfl rfl)]
  exact datEF_all t r fun j m2 y hm hy=>h (j + 1) m2 y (by simpa using hm) (by simpa using hy)
theorem datEL_zero (n:Nd):∀ (l:List Dt),datEL n l = 0 → ∀ x ∈ l,datE n true x = 0
 | [],_,x,h=>by cases h
 | a :: r,h,x,hx=>by
  simp only [datEL] at h
  by_cases h0:datE n true a = 0
  ·rw [if_pos h0] at h
   rcases List.mem_cons.1 hx with rfl | hx
   ·exact h0
   ·exact datEL_zero n r h x hx
  ·rw [if_neg h0] at h;exact absurd h h0
theorem datEF_zero : ∀ (s : List Nd) (l : List Dt), datEF s l = 0 → ∀ (k : Nat) (n : Nd) (x : Dt), s[k]? = some n → l[k]? = some x → datE n false x = 0
  | [], _, _, k, n, x, h, _ => by simp at h
  | m :: t, [], _, k, n, x, _, h => by simp at h
  | m :: t, a :: r, h, k, n, x, h0, h1 => by
    simp only [datEF] at h
    by_cases hz : datE m false a = 0
    · rw [if_pos hz] at h
      cases k with
      | zero => obtain rfl : a = x := by simpa using h1
                obtain rfl : m = n := by simpa using h0
                exact hz
      | succ k => exact datEF_zero t r h k n x (by simpa using h0) (by simpa using h1)
    · rw [if_neg hz] at h; exact absurd h hz
def bareB (d:Dt) (a b c e:Bool):Bool:=(a || !d.no) && (b || !hasV d.v) && (c || d.l.isEmpty) && (e || d.f.isEmpty)
theorem datE_none {n:Nd} {d:Dt} (h2:n.rep = 2) (h3:d.no = true):datE n false d = if bareB d true false false false = true then 0 else 3:=by
 rw [datE_eq];unfold bareB
 rw [if_pos (by simp [h2,h3])]
 cases hasV d.v <;> cases d.l.isEmpty <;> cases d.f.isEmpty <;> simp
theorem datE_list {n:Nd} {d:Dt} (h3:n.rep = 3):datE n false d = if bareB d false false true false = true then (if 40 < d.l.length then 2 else datEL n d.l) else 3:=by
 rw [datE_eq];unfold bareB
 rw [if_neg (by simp [h3])]
 cases d.no <;> cases hasV d.v <;> cases d.f.isEmpty <;> simp [h3]
def lonely (n:Nd) (one:Bool) (d:Dt):Prop:=one = true ∨ n.rep = 1 ∨ (n.rep = 2 ∧ d.no = false)
theorem datE_leaf {n:Nd} {one:Bool} {d:Dt} (h:lonely n one d) (hk:n.kind ≠ 0):datE n one d = if bareB d false true false false = true then (if okB n.kind d.v = true then 0 else 4) else 3:=by
 rw [datE_eq];unfold bareB
 rcases h with rfl | h | ⟨h,h0⟩
 ·cases d.no <;> cases d.l.isEmpty <;> cases d.f.isEmpty <;> simp [hk]
 ·cases d.no <;> cases d.l.isEmpty <;> cases d.f.isEmpty <;> simp [hk,h]
 ·cases d.l.isEmpty <;> cases d.f.isEmpty <;> simp [hk,h,h0]
theorem datE_group {n:Nd} {one:Bool} {d:Dt} (h:lonely n one d) (hk:n.kind = 0):datE n one d = if bareB d false false false true = true then (if d.f.length = n.sub.length then datEF n.sub d.f else 3) else 3:=by
 rw [datE_eq];unfold bareB
 rcases h with rfl | h | ⟨h,h0⟩
 ·cases d.no <;> cases d.l.isEmpty <;> cases hasV d.v <;> by_cases hf:d.f.length = n.sub.length <;> simp [hk,hf]
 ·cases d.no <;> cases d.l.isEmpty <;> cases hasV d.v <;> by_cases hf:d.f.length = n.sub.length <;> simp [hk,h,hf]
 ·cases d.l.isEmpty <;> cases hasV d.v <;> by_cases hf:d.f.length = n.sub.length <;> simp [hk,h,h0,hf]
end Go.Proofs.YtkmhmnffbgedgaaDoor
/- Records in memory. -/
namespace Go.Proofs.YtkmhmnffbgedgaaDoor
set_option linter.unusedVariables false
set_option linter.unusedSimpArgs false
open Go Go.RowKit Go.ChangeShapes
def dtA (d:Dt) (ul uf:Value):Array Value:=#[.bool d.no,.int .i64 d.v.k,.int .i64 d.v.n,.string d.v.s,ul,uf]
def DtAt (w:World) (b o:Nat) (d:Dt) (ul uf:Value):Prop:=∀ j v,(dtA d ul uf)[j]? = some v → w.cell? ⟨b,o + j,none⟩ = some v
inductive IsDts (P:Nat → Prop) (w:World):Value → List Dt → Prop
 | nil (ad:Option Addr) (cap:Nat):IsDts P w (.slice ad 0 cap) []
 | row (b off cap:Nat) (l:List Dt) (S T:Nat → Value) (hP:P b) (hb:b < w.heap.size) (hc:∀ j d,l[j]? = some d → DtAt w b (off + j * 6) d (S j) (T j))
   (hs:∀ j d,l[j]? = some d → IsDts P w (S j) d.l) (ht:∀ j d,l[j]? = some d → IsDts P w (T j) d.f) :
   IsDts P w (.slice (some ⟨b,off,none⟩) l.length cap) l
theorem IsDts.form {P:Nat → Prop} {w:World} {v:Value} {l:List Dt} (h:IsDts P w v l):∃ ad cap,v = .slice ad l.length cap:=by
 cases h with
 | nil ad cap=>exact ⟨ad,cap,rfl⟩
 | row b off cap l S T=>exact ⟨_,cap,rfl⟩
theorem IsDts.at {P:Nat → Prop} {w:World} {ad:Option Addr} {n cap:Nat} {l:List Dt} (h:IsDts P w (.slice ad n cap) l) (hl:0 < l.length) :
  ∃ b off,ad = some ⟨b,off,none⟩ ∧ P b ∧ b < w.heap.size ∧ ∀ j x,l[j]? = some x → ∃ u t,DtAt w b (off + j * 6) x u t ∧ IsDts P w u x.l ∧ IsDts P w t x.f:=by
 generalize hv:Value.slice ad n cap = v at h
 cases h with
 | nil ad' cap'=>simp at hl
 | row b off cap' l S T hP hb hc hs ht =>
  injection hv with e1 e2 e3
  exact ⟨b,off,e1,hP,hb,fun j x hj=>⟨S j,T j,hc j x hj,hs j x hj,ht j x hj⟩⟩
theorem IsDts.one {P:Nat → Prop} {w:World} {v:Value} {l:List Dt} (h:IsDts P w v l):v.oneCell' = true:=by
 obtain ⟨ad,cap,rfl⟩:=h.form;rfl
theorem IsDts.keep {P:Nat → Prop} {w w':World} {v:Value} {l:List Dt} (h:IsDts P w v l) (hz:w.heap.size ≤ w'.heap.size) (hk:∀ b,P b → b < w.heap.size → w'.heap[b]? = w.heap[b]?):IsDts P w' v l:=by
 induction h with
 | nil ad cap=>exact .nil ad cap
 | row b off cap l S T hP hb hc hs ht ih ih2 =>
  refine .row b off cap l S T hP (by omega) (fun j n hj k x hx=>?_) ih ih2
  rw [World.cell?_of_block (w:=w) (hk b hP hb)]
  exact hc j n hj k x hx
theorem IsDts.mono {P Q:Nat → Prop} {w:World} {v:Value} {l:List Dt} (h:IsDts P w v l) (hPQ:∀ b,P b → b < w.heap.size → Q b):IsDts Q w v l:=by
 induction h with
 | nil ad cap=>exact .nil ad cap
 | row b off cap l S T hP hb hc hs ht ih ih2=>exact .row b off cap l S T (hPQ b hP hb) hb hc ih ih2
theorem IsDts.under {B:Nat} {w w':World} {v:Value} {l:List Dt} (h:IsDts (· < B) w v l) (hb:Below B w w'):IsDts (· < B) w' v l:=h.keep hb.size fun b hP _=>hb.block b hP
theorem IsDts.belowP {B:Nat} {P:Nat → Prop} {w w':World} {v:Value} {l:List Dt} (h:IsDts P w v l) (hP:∀ b,P b → b < B) (hb:Below B w w'):IsDts P w' v l:=h.keep hb.size fun b hp _=>hb.block b (hP b hp)
mutual
def dts:Dt → List Dt
 | .mk a v l f=>.mk a v l f :: (dtsL l ++ dtsL f)
def dtsL:List Dt → List Dt
 | []=>[]
 | x :: r=>dts x ++ dtsL r
end
theorem dts_eq (d:Dt):dts d = d :: (dtsL d.l ++ dtsL d.f):=by cases d;simp only [dts];rfl
theorem dtsL_mem {x y:Dt} {l:List Dt} (hx:x ∈ l) (hy:y ∈ dts x):y ∈ dtsL l:=by
 induction l with
 | nil=>cases hx
 | cons a r ih =>
  simp only [dtsL]
  rcases List.mem_cons.1 hx with rfl | hx
  ·exact List.mem_append_left _ hy
  ·exact List.mem_append_right _ (ih hx)
theorem mem_dtsL {x:Dt}:∀ {l:List Dt},x ∈ dtsL l → ∃ y ∈ l,x ∈ dts y
 | [],h=>by simp [dtsL] at h
 | a :: r,h=>by
  simp only [dtsL] at h
  rcases List.mem_append.1 h with h | h
  ·exact ⟨a,List.mem_cons_self ..,h⟩
  ·obtain ⟨y,hy,h2⟩:=mem_dtsL h
   exact ⟨y,List.mem_cons_of_mem _ hy,h2⟩
structure Dt.Ok1 (d:Dt):Prop where
 v:d.v.Ok
 l:d.l.length * 88 ≤ 140737488355328
 f:d.f.length * 88 ≤ 140737488355328
theorem dt_info:(Tryd.prog.info? 63).map (·.size) = some 6:=by kernel_rfl
end Go.Proofs.YtkmhmnffbgedgaaDoor
/- Records cut into columns: plain Lean: what is written leaf by leaf is what stands on the way to a leaf. -/
namespace Go.Proofs.YtkmhmnffbgedgaaDoor
set_option linter.unusedVariables false
set_option linter.unusedSimpArgs false
open Go Go.RowKit
mutual
def lvs:Nd → Nat
 | .mk _ _ _ k l=>if k = 0 then lvsL l else 1
def lvsL:List Nd → Nat
 | []=>0
 | x :: r=>lvs x + lvsL r
end
theorem lvs_eq (n:Nd):lvs n = if n.kind = 0 then lvsL n.sub else 1:=by cases n;simp only [lvs];rfl
theorem lvsL_app (a b:List Nd):lvsL (a ++ b) = lvsL a + lvsL b:=by
 induction a with
 | nil=>simp [lvsL]
 | cons x r ih=>simp only [List.cons_append,lvsL,ih];omega
theorem lvs_le:(∀ n,lvs n ≤ size n) ∧ ∀ l,lvsL l ≤ sizeL l:=by
 refine tree2 (fun n h=>?_) (Nat.le_refl _) (fun x r h1 h2=>?_)
 ·rw [lvs_eq,size_eq];split <;> omega
 ·simp only [lvsL,sizeL];omega
structure Ent where
 r:Int
 d:Int
 v:Val
def noneE (n leaf:Nat) (e:Ent) (j:Nat):List Ent:=if leaf ≤ j ∧ j < leaf + n then [e] else []
mutual
def shE:Nd → Dt → Nat → Int → Int → Int → Bool → Nat → List Ent
 | n,.mk no v l f,leaf,rep,df,lv,one,j =>
  if one = false ∧ n.rep = 2 ∧ no = true then noneE (lvs n) leaf ⟨rep,df,zeroV⟩ j
  else if one = false ∧ n.rep = 3 then (if l.isEmpty = true then noneE (lvs n) leaf ⟨rep,df,zeroV⟩ j else shEL n l leaf rep df lv j)
  else if n.kind ≠ 0 then noneE 1 leaf ⟨rep,if one = false ∧ n.rep = 2 then df + 1 else df,v⟩ j
  else shEF n.sub f leaf rep (if one = false ∧ n.rep = 2 then df + 1 else df) lv j
def shEL:Nd → List Dt → Nat → Int → Int → Int → Nat → List Ent
 | _,[],_,_,_,_,_=>[]
 | n,x :: r,leaf,rep,df,lv,j=>shE n x leaf rep (df + 1) (lv + 1) true j ++ shEL n r leaf (lv + 1) df lv j
def shEF:List Nd → List Dt → Nat → Int → Int → Int → Nat → List Ent
 | s :: t,x :: r,leaf,rep,df,lv,j=>shE s x leaf rep df lv false j ++ shEF t r (leaf + lvs s) rep df lv j
 | [],_,_,_,_,_,_=>[]
 | _ :: _,[],_,_,_,_,_=>[]
end
theorem shE_eq (n:Nd) (d:Dt) (leaf:Nat) (rep df lv:Int) (one:Bool) (j:Nat):shE n d leaf rep df lv one j =
  if one = false ∧ n.rep = 2 ∧ d.no = true then noneE (lvs n) leaf ⟨rep,df,zeroV⟩ j
  else if one = false ∧ n.rep = 3 then (if d.l.isEmpty = true then noneE (lvs n) leaf ⟨rep,df,zeroV⟩ j else shEL n d.l leaf rep df lv j)
  else if n.kind ≠ 0 then noneE 1 leaf ⟨rep,if one = false ∧ n.rep = 2 then df + 1 else df,d.v⟩ j
  else shEF n.sub d.f leaf rep (if one = false ∧ n.rep = 2 then df + 1 else df) lv j:=by
 cases d;simp only [shE];rfl
theorem shEL_snoc (n:Nd):∀ (l:List Dt) (x:Dt) (leaf:Nat) (rep df lv:Int) (j:Nat),shEL n (l ++ [x]) leaf rep df lv j = shEL n l leaf rep df lv j ++ shE n x leaf (if l.isEmpty = true then rep else lv + 1) (df + 1) (lv + 1) true j
 | [],x,leaf,rep,df,lv,j=>by simp [shEL]
 | a :: l,x,leaf,rep,df,lv,j=>by
  simp only [List.cons_append,shEL,shEL_snoc n l x leaf (lv + 1) df lv j,List.append_assoc]
  congr 2
  cases l <;> simp
theorem shEF_snoc:∀ (s:List Nd) (l:List Dt) (n:Nd) (x:Dt) (leaf:Nat) (rep df lv:Int) (j:Nat),s.length = l.length → shEF (s ++ [n]) (l ++ [x]) leaf rep df lv j = shEF s l leaf rep df lv j ++ shE n x (leaf + lvsL s) rep df lv false j
 | [],[],n,x,leaf,rep,df,lv,j,_=>by simp [shEF,lvsL]
 | [],_ :: _,n,x,leaf,rep,df,lv,j,h=>by simp at h
 | _ :: _,[],n,x,leaf,rep,df,lv,j,h=>by simp at h
 | a :: s,b :: l,n,x,leaf,rep,df,lv,j,h=>by
  simp only [List.cons_append,shEF,lvsL]
  rw [shEF_snoc s l n x (leaf + lvs a) rep df lv j (by simpa using h),List.append_assoc,Nat.add_assoc]
theorem noneE_out {n leaf j:Nat} {e:Ent} (h:j < leaf ∨ leaf + n ≤ j):noneE n leaf e j = []:=by unfold noneE;rw [if_neg (by omega)]
theorem shE_outAll:∀ d:Dt,∀ (n:Nd) (leaf:Nat) (rep df lv:Int) (one:Bool) (j:Nat),j < leaf ∨ leaf + lvs n ≤ j → shE n d leaf rep df lv one j = []:=by
 apply Dt.ind
 intro d hl hf n leaf rep df lv one j hj
 rw [shE_eq]
 have h1:∀ (l:List Dt),(∀ x ∈ l,x ∈ d.l) → ∀ rep,shEL n l leaf rep df lv j = []:=by
  intro l
  induction l with
  | nil=>intro _ _;rfl
  | cons x r ih =>
   intro h rep
   simp only [shEL]
   rw [hl x (h x (List.mem_cons_self ..)) n leaf rep (df + 1) (lv + 1) true j hj,ih (fun y hy=>h y (List.mem_cons_of_mem _ hy))];rfl
 have h2:∀ (s:List Nd) (l:List Dt),(∀ x ∈ l,x ∈ d.f) → ∀ (leaf:Nat) (df:Int),(j < leaf ∨ leaf + lvsL s ≤ j) → shEF s l leaf rep df lv j = []:=by
  intro s
  induction s with
  | nil=>intro l _ leaf df _;cases l <;> rfl
  | cons m t ih =>
   intro l h leaf df hj2
   cases l with
   | nil=>rfl
   | cons x r =>
    simp only [shEF]
    simp only [lvsL] at hj2
    rw [hf x (h x (List.mem_cons_self ..)) m leaf rep df lv false j (by omega),ih r (fun y hy=>h y (List.mem_cons_of_mem _ hy)) (leaf + lvs m) df (by omega)];rfl
 split
 ·exact noneE_out hj
 split
 ·split
  ·exact noneE_out hj
  ·exact h1 _ (fun _ h=>h) _
 rw [lvs_eq] at hj
 split
 ·rename_i hk;rw [if_neg hk] at hj;exact noneE_out hj
 ·rename_i hk;rw [if_pos (Classical.not_not.1 hk)] at hj;exact h2 _ _ (fun _ h=>h) _ _ hj
mutual
def wgt:Dt → Nat
 | .mk _ v l f=>1 + v.s.size + wgtL l + wgtL f
def wgtL:List Dt → Nat
 | []=>0
 | x :: r=>wgt x + wgtL r
end
theorem wgt_eq (d:Dt):wgt d = 1 + d.v.s.size + wgtL d.l + wgtL d.f:=by cases d;simp only [wgt];rfl
theorem wgtL_app (a b:List Dt):wgtL (a ++ b) = wgtL a + wgtL b:=by
 induction a with
 | nil=>simp [wgtL]
 | cons x r ih=>simp only [List.cons_append,wgtL,ih];omega
theorem noneE_len (n leaf j:Nat) (e:Ent):(noneE n leaf e j).length ≤ 1:=by unfold noneE;split <;> simp
theorem shE_len:∀ d:Dt,∀ (n:Nd) (leaf:Nat) (rep df lv:Int) (one:Bool) (j:Nat),(shE n d leaf rep df lv one j).length ≤ wgt d:=by
 apply Dt.ind
 intro d hl hf n leaf rep df lv one j
 have h1:∀ (l:List Dt),(∀ x ∈ l,x ∈ d.l) → ∀ rep,(shEL n l leaf rep df lv j).length ≤ wgtL l:=by
  intro l
  induction l with
  | nil=>intro _ _;simp [shEL]
  | cons x r ih =>
   intro h rep
   simp only [shEL,wgtL,List.length_append]
   have a:=hl x (h x (List.mem_cons_self ..)) n leaf rep (df + 1) (lv + 1) true j
   have b:=ih (fun y hy=>h y (List.mem_cons_of_mem _ hy)) (lv + 1)
   omega
 have h2:∀ (s:List Nd) (l:List Dt),(∀ x ∈ l,x ∈ d.f) → ∀ (leaf:Nat) (df:Int),(shEF s l leaf rep df lv j).length ≤ wgtL l:=by
  intro s
  induction s with
  | nil=>intro l _ leaf df;cases l <;> simp [shEF]
  | cons m t ih =>
   intro l h leaf df
   cases l with
   | nil=>simp [shEF]
   | cons x r =>
    simp only [shEF,wgtL,List.length_append]
    have a:=hf x (h x (List.mem_cons_self ..)) m leaf rep df lv false j
    have b:=ih r (fun y hy=>h y (List.mem_cons_of_mem _ hy)) (leaf + lvs m) df
    omega
 rw [shE_eq,wgt_eq]
 split
 ·have:=noneE_len (lvs n) leaf j ⟨rep,df,zeroV⟩;omega
 split
 ·split
  ·have:=noneE_len (lvs n) leaf j ⟨rep,df,zeroV⟩;omega
  ·have:=h1 d.l (fun _ h=>h) rep;omega
 split
 ·have:=noneE_len 1 leaf j ⟨rep,if one = false ∧ n.rep = 2 then df + 1 else df,d.v⟩;omega
 ·have:=h2 n.sub d.f (fun _ h=>h) leaf (if one = false ∧ n.rep = 2 then df + 1 else df);omega
structure EntD where
 r:Int
 d:Int
 v:Option Val
def hdId:List Nd → Int
 | []=>-1
 | n :: _=>n.id
mutual
def docE:List Nd → Dt → Int → Int → Int → Bool → List EntD
 | [],_,_,_,_,_=>[]
 | n :: p,.mk no v l f,rep,df,lv,one =>
  if one = false ∧ n.rep = 3 then (if l.isEmpty = true then [⟨rep,df,none⟩] else docEL (n :: p) l rep df lv)
  else if one = false ∧ n.rep = 2 ∧ no = true then [⟨rep,df,none⟩]
  else if n.kind ≠ 0 then [⟨rep,if one = false ∧ n.rep = 2 then df + 1 else df,some v⟩]
  else docEF n.sub f p rep (if one = false ∧ n.rep = 2 then df + 1 else df) lv
def docEL:List Nd → List Dt → Int → Int → Int → List EntD
 | _,[],_,_,_=>[]
 | p,x :: r,rep,df,lv=>docE p x rep (df + 1) (lv + 1) true ++ docEL p r (lv + 1) df lv
def docEF:List Nd → List Dt → List Nd → Int → Int → Int → List EntD
 | s :: t,x :: r,p,rep,df,lv=>(if s.id = hdId p then docE p x rep df lv false else []) ++ docEF t r p rep df lv
 | [],_,_,_,_,_=>[]
 | _ :: _,[],_,_,_,_=>[]
end
theorem docE_eq (n:Nd) (p:List Nd) (d:Dt) (rep df lv:Int) (one:Bool):docE (n :: p) d rep df lv one =
  if one = false ∧ n.rep = 3 then (if d.l.isEmpty = true then [⟨rep,df,none⟩] else docEL (n :: p) d.l rep df lv)
  else if one = false ∧ n.rep = 2 ∧ d.no = true then [⟨rep,df,none⟩]
  else if n.kind ≠ 0 then [⟨rep,if one = false ∧ n.rep = 2 then df + 1 else df,some d.v⟩]
  else docEF n.sub d.f p rep (if one = false ∧ n.rep = 2 then df + 1 else df) lv:=by
 cases d;simp only [docE];rfl
theorem docEL_snoc (p:List Nd):∀ (l:List Dt) (x:Dt) (rep df lv:Int),docEL p (l ++ [x]) rep df lv = docEL p l rep df lv ++ docE p x (if l.isEmpty = true then rep else lv + 1) (df + 1) (lv + 1) true
 | [],x,rep,df,lv=>by simp [docEL]
 | a :: l,x,rep,df,lv=>by
  simp only [List.cons_append,docEL,docEL_snoc p l x (lv + 1) df lv,List.append_assoc]
  congr 2
  cases l <;> simp
theorem docEF_snoc:∀ (s:List Nd) (l:List Dt) (n:Nd) (x:Dt) (p:List Nd) (rep df lv:Int),s.length = l.length → docEF (s ++ [n]) (l ++ [x]) p rep df lv = docEF s l p rep df lv ++ (if n.id = hdId p then docE p x rep df lv false else [])
 | [],[],n,x,p,rep,df,lv,_=>by simp [docEF]
 | [],_ :: _,n,x,p,rep,df,lv,h=>by simp at h
 | _ :: _,[],n,x,p,rep,df,lv,h=>by simp at h
 | a :: s,b :: l,n,x,p,rep,df,lv,h=>by
  simp only [List.cons_append,docEF]
  rw [docEF_snoc s l n x p rep df lv (by simpa using h),List.append_assoc]
mutual
def chs:Nd → List (List Nd)
 | .mk a b c k l=>if k = 0 then (chsL l).map (Nd.mk a b c k l :: ·) else [[.mk a b c k l]]
def chsL:List Nd → List (List Nd)
 | []=>[]
 | x :: r=>chs x ++ chsL r
end
theorem chs_eq (n:Nd):chs n = if n.kind = 0 then (chsL n.sub).map (n :: ·) else [[n]]:=by cases n;simp only [chs];rfl
theorem chs_len:(∀ n,(chs n).length = lvs n) ∧ ∀ l,(chsL l).length = lvsL l:=by
 refine tree2 (fun n h=>?_) rfl (fun x r h1 h2=>?_)
 ·rw [chs_eq,lvs_eq];split
  ·rw [List.length_map,h]
  ·rfl
 ·simp only [chsL,lvsL,List.length_append,h1,h2]
theorem chs_head:(∀ n,∀ c ∈ chs n,∃ p,c = n :: p) ∧ ∀ l,∀ c ∈ chsL l,∃ n p,c = n :: p ∧ n ∈ l:=by
 refine tree2 (fun n h c hc=>?_) (fun c hc=>by simp [chsL] at hc) (fun x r h1 h2 c hc=>?_)
 ·rw [chs_eq] at hc
  split at hc
  ·obtain ⟨q,_,rfl⟩:=List.mem_map.1 hc;exact ⟨q,rfl⟩
  ·rw [List.mem_singleton.1 hc];exact ⟨[],rfl⟩
 ·simp only [chsL,List.mem_append] at hc
  rcases hc with hc | hc
  ·obtain ⟨p,rfl⟩:=h1 c hc;exact ⟨x,p,rfl,List.mem_cons_self ..⟩
  ·obtain ⟨n,p,rfl,hn⟩:=h2 c hc;exact ⟨n,p,rfl,List.mem_cons_of_mem _ hn⟩
theorem opts_cons (n:Nd) (h:List Nd):opts (n :: h) = (if n.rep ≠ 1 then 1 else 0) + opts h:=by
 unfold opts
 rw [List.filter_cons]
 by_cases e:n.rep = 1
 ·simp [e]
 ·simp only [e,ne_eq,not_false_eq_true,decide_true,if_true,List.length_cons];omega
theorem opts_nn (h:List Nd):0 ≤ opts h:=by unfold opts;omega
theorem reps_cons (n:Nd) (h:List Nd):reps (n :: h) = (if n.rep = 3 then 1 else 0) + reps h:=by
 unfold reps
 rw [List.filter_cons]
 by_cases e:n.rep = 3
 ·simp only [e,decide_true,if_true,List.length_cons];omega
 ·simp [e]
def lastN:List Nd → Nd
 | []=>.mk 0 ByteArray.empty 0 0 []
 | [n]=>n
 | _ :: m :: r=>lastN (m :: r)
theorem lastN_cons (n:Nd) (c:List Nd) (h:c ≠ []):lastN (n :: c) = lastN c:=by cases c with | nil=>exact absurd rfl h | cons m r=>rfl
def lvfOf (mr md:Int) (p:List Int) (c:List Nd):Lvf:=⟨(lastN c).id,(lastN c).kind,mr + reps c,md + opts c,p ++ idsOf c⟩
theorem lv_chs:(∀ n,∀ mr md p,lvN n mr md p = (chs n).map (lvfOf mr md p)) ∧ ∀ l,∀ mr md p,lvL l mr md p = (chsL l).map (lvfOf mr md p):=by
 refine tree2 (fun n h mr md p=>?_) (fun mr md p=>rfl) (fun x r h1 h2 mr md p=>?_)
 ·rw [lvN_eq,chs_eq]
  split
  ·rw [h,List.map_map]
   refine List.map_congr_left fun c hc=>?_
   obtain ⟨m,q,rfl,_⟩:=chs_head.2 n.sub c hc
   simp only [lvfOf,Function.comp,lastN_cons n (m :: q) (by simp),reps_cons n,opts_cons n,idsOf,List.map_cons,List.append_assoc,List.cons_append,List.nil_append]
   congr 1
   ·split <;> omega
   ·split <;> omega
  ·simp only [List.map_cons,List.map_nil,lvfOf,lastN,reps_cons,opts_cons,idsOf]
   congr 2
   ·simp only [reps,List.filter_nil,List.length_nil];split <;> simp
   ·simp only [opts,List.filter_nil,List.length_nil];split <;> simp
 ·simp only [lvL,chsL,List.map_append,h1,h2]
theorem leaves_chs (n:Nd):leavesN n = (chsL n.sub).map (lvfOf 0 0 []):=lv_chs.2 _ _ _ _
def entD (m:Int) (e:Ent):EntD:=⟨e.r,e.d,if e.d = m then some e.v else none⟩
def own1 (n:Nd) (one:Bool):Int:=if one = true ∧ n.rep ≠ 1 then 1 else 0
theorem doc_main:∀ d:Dt,∀ (n:Nd) (leaf:Nat) (rep df lv:Int) (one:Bool),(∀ x ∈ nodes n,okShape x = true) → ((nodes n).map Nd.id).Nodup → datE n one d = 0 →
  ∀ (i:Nat) (c:List Nd),(chs n)[i]? = some c → docE c d rep df lv one = (shE n d leaf rep df lv one (leaf + i)).map (entD (df + opts c - own1 n one)):=by
 apply Dt.ind
 intro d hl hf n leaf rep df lv one hs hn hd i c hc
 obtain ⟨p,rfl⟩:=chs_head.1 n c (List.mem_of_getElem? hc)
 have hi:i < lvs n:=by rw [← chs_len.1];exact (List.getElem?_eq_some_iff.1 hc).1
 have hon:=opts_nn p
 have hsn:=hs n (by rw [nodes_eq];exact List.mem_cons_self ..)
 rw [docE_eq,shE_eq,opts_cons]
 have hin:leaf ≤ leaf + i ∧ leaf + i < leaf + lvs n:=by omega
 by_cases h3:one = false ∧ n.rep = 3
 ·have h2:¬ (one = false ∧ n.rep = 2 ∧ d.no = true):=by omega
  rw [if_pos h3,if_neg h2,if_pos h3]
  obtain ⟨rfl,h3⟩:=h3
  by_cases he:d.l.isEmpty = true
  ·rw [if_pos he,if_pos he]
   unfold noneE own1
   rw [if_pos hin]
   simp only [List.map_cons,List.map_nil,entD]
   rw [if_neg (show ¬ df = _ by simp [h3];omega)]
  ·rw [if_neg he,if_neg he]
   have hall:∀ x ∈ d.l,datE n true x = 0:=by
    rw [datE_list h3] at hd
    split at hd
    ·split at hd
     ·omega
     ·exact datEL_zero n _ hd
    ·omega
   have key:∀ (l:List Dt),(∀ x ∈ l,x ∈ d.l) → ∀ rep:Int,docEL (n :: p) l rep df lv = (shEL n l leaf rep df lv (leaf + i)).map (entD (df + ((if n.rep ≠ 1 then 1 else 0) + opts p) - own1 n false)):=by
    intro l
    induction l with
    | nil=>intro _ _;rfl
    | cons x r ih =>
     intro h rep
     simp only [docEL,shEL,List.map_append]
     have hx:=h x (List.mem_cons_self ..)
     rw [hl x hx n leaf rep (df + 1) (lv + 1) true hs hn (hall x hx) i _ hc,ih (fun y hy=>h y (List.mem_cons_of_mem _ hy)),opts_cons]
     congr 3
     simp [own1,h3];omega
   exact key _ (fun _ h=>h) rep
 ·rw [if_neg h3]
  by_cases h2:one = false ∧ n.rep = 2 ∧ d.no = true
  ·rw [if_pos h2,if_pos h2]
   obtain ⟨rfl,h2,h4⟩:=h2
   unfold noneE own1
   rw [if_pos hin]
   simp only [List.map_cons,List.map_nil,entD]
   rw [if_neg (show ¬ df = _ by simp [h2];omega)]
  ·rw [if_neg h2,if_neg h2,if_neg h3]
   have hr1:n.rep = 1 ∨ n.rep = 2 ∨ n.rep = 3:=by
    unfold okShape at hsn
    simp only [Bool.and_eq_true,decide_eq_true_eq] at hsn
    omega
   have hlo:lonely n one d:=by
    unfold lonely
    cases one with
    | true=>exact .inl rfl
    | false =>
     refine .inr ?_
     simp only [true_and,not_and,Bool.not_eq_true] at h2 h3
     rcases hr1 with h | h | h
     ·exact .inl h
     ·exact .inr ⟨h,h2 h⟩
     ·exact absurd h h3
   have hup:df + ((if n.rep ≠ 1 then 1 else 0) + opts p) - own1 n one = (if one = false ∧ n.rep = 2 then df + 1 else df) + opts p:=by
    unfold own1
    cases one with
    | true=>simp;split <;> omega
    | false =>
     simp only [true_and] at h3
     rcases hr1 with h | h | h
     ·simp [h]
     ·simp [h];omega
     ·exact absurd h h3
   rw [hup]
   by_cases hk:n.kind = 0
   ·rw [if_neg (show ¬ (n.kind ≠ 0) from fun h=>h hk),if_neg (show ¬ (n.kind ≠ 0) from fun h=>h hk)]
    rw [datE_group hlo hk] at hd
    have hdF:d.f.length = n.sub.length ∧ datEF n.sub d.f = 0:=by
     split at hd
     ·split at hd
      ·exact ⟨by assumption,hd⟩
      ·omega
     ·omega
    rw [chs_eq,if_pos hk,List.getElem?_map] at hc
    obtain ⟨q,hq,hqe⟩:=Option.map_eq_some_iff.1 hc
    injection hqe with _ hqe
    subst hqe
    have hss:∀ x ∈ nodesL n.sub,okShape x = true:=fun x hx=>hs x (by rw [nodes_eq];exact List.mem_cons_of_mem _ hx)
    have hns:((nodesL n.sub).map Nd.id).Nodup:=by rw [nodes_eq,List.map_cons,List.nodup_cons] at hn;exact hn.2
    generalize (if one = false ∧ n.rep = 2 then df + 1 else df) = df2
    have hz:=datEF_zero _ _ hdF.2
    have hlen:=hdF.1
    clear hdF hd hs hn hup hon hl hin hi hc hsn hlo
    -- over the fields
    have key:∀ (s:List Nd) (l:List Dt),s.length = l.length → (∀ x ∈ l,x ∈ d.f) → (∀ (k:Nat) (m:Nd) (x:Dt),s[k]? = some m → l[k]? = some x → datE m false x = 0) → (∀ x ∈ nodesL s,okShape x = true) → ((nodesL s).map Nd.id).Nodup →
      ∀ (leaf i:Nat),(chsL s)[i]? = some q → docEF s l q rep df2 lv = (shEF s l leaf rep df2 lv (leaf + i)).map (entD (df2 + opts q)):=by
     intro s
     induction s with
     | nil=>intro l _ _ _ _ _ leaf i h;simp [chsL] at h
     | cons m t ih =>
      intro l hsl hin hz hok hnd leaf i hq
      cases l with
      | nil=>simp at hsl
      | cons x r =>
       simp only [docEF,shEF,List.map_append]
       simp only [chsL] at hq
       simp only [nodesL,List.map_append] at hnd
       rw [List.nodup_append] at hnd
       obtain ⟨hn1,hn2,hn3⟩:=hnd
       have hz0:=hz 0 m x rfl rfl
       have hok1:∀ y ∈ nodes m,okShape y = true:=fun y hy=>hok y (by simp only [nodesL];exact List.mem_append_left _ hy)
       have hok2:∀ y ∈ nodesL t,okShape y = true:=fun y hy=>hok y (by simp only [nodesL];exact List.mem_append_right _ hy)
       have mem_self:∀ y:Nd,y ∈ nodes y:=fun y=>by rw [nodes_eq];exact List.mem_cons_self ..
       have mem_sub:∀ y ∈ t,y ∈ nodesL t:=fun y hy=>nodesL_mem hy (mem_self y)
       rcases Nat.lt_or_ge i (lvs m) with hlt | hge
       ·rw [List.getElem?_append_left (by rw [chs_len.1];exact hlt)] at hq
        obtain ⟨p',rfl⟩:=chs_head.1 m q (List.mem_of_getElem? hq)
        rw [if_pos (show m.id = hdId (m :: p') from rfl),hf x (hin x (List.mem_cons_self ..)) m leaf rep df2 lv false hok1 hn1 hz0 i _ hq]
        have e0:docEF t r (m :: p') rep df2 lv = []:=by
         have:∀ (t:List Nd) (r:List Dt),(∀ y ∈ t,y.id ≠ m.id) → docEF t r (m :: p') rep df2 lv = []:=by
          intro t
          induction t with
          | nil=>intro r _;cases r <;> rfl
          | cons y t ih2 =>
           intro r hy
           cases r with
           | nil=>rfl
           | cons z r =>
            simp only [docEF]
            rw [if_neg (show ¬ y.id = hdId (m :: p') from hy y (List.mem_cons_self ..)),ih2 r fun a ha=>hy a (List.mem_cons_of_mem _ ha)];rfl
         exact this t r fun y hy e=>hn3 m.id (List.mem_map.2 ⟨m,mem_self m,rfl⟩) y.id (List.mem_map.2 ⟨y,mem_sub y hy,rfl⟩) e.symm
        have e1:shEF t r (leaf + lvs m) rep df2 lv (leaf + i) = []:=by
         have:∀ (t:List Nd) (r:List Dt) (lf:Nat),leaf + i < lf → shEF t r lf rep df2 lv (leaf + i) = []:=by
          intro t
          induction t with
          | nil=>intro r lf _;cases r <;> rfl
          | cons y t ih2 =>
           intro r lf hlf
           cases r with
           | nil=>rfl
           | cons z r =>
            simp only [shEF]
            rw [shE_outAll z y lf rep df2 lv false _ (.inl hlf),ih2 r (lf + lvs y) (by omega)];rfl
         exact this t r _ (by omega)
        rw [e0,e1]
        simp [own1]
       ·rw [List.getElem?_append_right (by rw [chs_len.1];exact hge),chs_len.1] at hq
        obtain ⟨m2,p',rfl,hm2⟩:=chs_head.2 t q (List.mem_of_getElem? hq)
        have hne:¬ m.id = hdId (m2 :: p'):=fun e=>hn3 m.id (List.mem_map.2 ⟨m,mem_self m,rfl⟩) m2.id (List.mem_map.2 ⟨m2,mem_sub m2 hm2,rfl⟩) e
        rw [if_neg hne,shE_outAll x m leaf rep df2 lv false _ (.inr (by omega))]
        have:=ih r (by simpa using hsl) (fun y hy=>hin y (List.mem_cons_of_mem _ hy)) (fun k a b ha hb=>hz (k + 1) a b (by simpa using ha) (by simpa using hb)) hok2 hn2 (leaf + lvs m) (i - lvs m) hq
        rw [this,show leaf + lvs m + (i - lvs m) = leaf + i by omega]
        simp
    exact key n.sub d.f hlen.symm (fun _ h=>h) hz hss hns leaf i hq
   ·rw [if_pos (show n.kind ≠ 0 from hk),if_pos (show n.kind ≠ 0 from hk)]
    rw [chs_eq,if_neg hk] at hc
    have hc':=(List.getElem?_eq_some_iff.1 hc)
    obtain ⟨h0,h1⟩:=hc'
    have hi0:i = 0:=by simp at h0;exact h0
    subst hi0
    simp at h1
    subst h1
    unfold noneE
    rw [if_pos (show leaf ≤ leaf + 0 ∧ leaf + 0 < leaf + 1 by omega)]
    simp [entD,opts]
theorem shEL_app (n:Nd):∀ (a b:List Dt) (leaf:Nat) (rep df lv:Int) (j:Nat),shEL n (a ++ b) leaf rep df lv j = shEL n a leaf rep df lv j ++ shEL n b leaf (if a.isEmpty = true then rep else lv + 1) df lv j
 | [],b,leaf,rep,df,lv,j=>by simp [shEL]
 | x :: a,b,leaf,rep,df,lv,j=>by
  simp only [List.cons_append,shEL,shEL_app n a b leaf (lv + 1) df lv j,List.append_assoc]
  congr 2
  cases a <;> simp
theorem shEF_app:∀ (s t:List Nd) (a b:List Dt) (leaf:Nat) (rep df lv:Int) (j:Nat),s.length = a.length → shEF (s ++ t) (a ++ b) leaf rep df lv j = shEF s a leaf rep df lv j ++ shEF t b (leaf + lvsL s) rep df lv j
 | [],t,[],b,leaf,rep,df,lv,j,_=>by simp [shEF,lvsL]
 | [],t,_ :: _,b,leaf,rep,df,lv,j,h=>by simp at h
 | _ :: _,t,[],b,leaf,rep,df,lv,j,h=>by simp at h
 | m :: s,t,x :: a,b,leaf,rep,df,lv,j,h=>by
  simp only [List.cons_append,shEF,lvsL]
  rw [shEF_app s t a b (leaf + lvs m) rep df lv j (by simpa using h),List.append_assoc,Nat.add_assoc]
theorem shEL_up (n:Nd) {l:List Dt} {k:Nat} {x:Dt} (h:l[k]? = some x) (leaf:Nat) (rep df lv:Int) (j:Nat) :
  shEL n (l.take (k + 1)) leaf rep df lv j = shEL n (l.take k) leaf rep df lv j ++ shE n x leaf (if k = 0 then rep else lv + 1) (df + 1) (lv + 1) true j ∧
  (shEL n (l.take k) leaf rep df lv j).length + (shE n x leaf (if k = 0 then rep else lv + 1) (df + 1) (lv + 1) true j).length ≤ (shEL n l leaf rep df lv j).length:=by
 have hk:=(List.getElem?_eq_some_iff.1 h).1
 have e1:l.take (k + 1) = l.take k ++ [x]:=by rw [List.take_add_one,h];rfl
 have e2:(l.take k).isEmpty = true ↔ k = 0:=by
  rw [List.isEmpty_iff]
  constructor
  ·intro h2
   have:=congrArg List.length h2
   rw [List.length_take,List.length_nil] at this
   omega
  ·intro h2;subst h2;rfl
 have a:shEL n (l.take (k + 1)) leaf rep df lv j = shEL n (l.take k) leaf rep df lv j ++ shE n x leaf (if k = 0 then rep else lv + 1) (df + 1) (lv + 1) true j:=by
  rw [e1,shEL_snoc]
  congr 2
  by_cases hz:k = 0
  ·rw [if_pos hz,if_pos (e2.2 hz)]
  ·rw [if_neg hz,if_neg (fun q=>hz (e2.1 q))]
 refine ⟨a,?_⟩
 have b:=shEL_app n (l.take (k + 1)) (l.drop (k + 1)) leaf rep df lv j
 rw [List.take_append_drop,a] at b
 have c:=congrArg List.length b
 simp only [List.length_append] at c
 omega
theorem shEF_up {s:List Nd} {l:List Dt} {k:Nat} {m:Nd} {x:Dt} (hs:s[k]? = some m) (h:l[k]? = some x) (hsl:s.length = l.length) (leaf:Nat) (rep df lv:Int) (j:Nat) :
  shEF (s.take (k + 1)) (l.take (k + 1)) leaf rep df lv j = shEF (s.take k) (l.take k) leaf rep df lv j ++ shE m x (leaf + lvsL (s.take k)) rep df lv false j ∧
  (shEF (s.take k) (l.take k) leaf rep df lv j).length + (shE m x (leaf + lvsL (s.take k)) rep df lv false j).length ≤ (shEF s l leaf rep df lv j).length:=by
 have hk:=(List.getElem?_eq_some_iff.1 h).1
 have e1:l.take (k + 1) = l.take k ++ [x]:=by rw [List.take_add_one,h];rfl
 have e2:s.take (k + 1) = s.take k ++ [m]:=by rw [List.take_add_one,hs];rfl
 have a:shEF (s.take (k + 1)) (l.take (k + 1)) leaf rep df lv j = shEF (s.take k) (l.take k) leaf rep df lv j ++ shE m x (leaf + lvsL (s.take k)) rep df lv false j:=by
  rw [e1,e2,shEF_snoc _ _ _ _ _ _ _ _ _ (by simp [List.length_take,hsl])]
 refine ⟨a,?_⟩
 have b:=shEF_app (s.take (k + 1)) (s.drop (k + 1)) (l.take (k + 1)) (l.drop (k + 1)) leaf rep df lv j (by simp [List.length_take,hsl])
 rw [List.take_append_drop,List.take_append_drop,a] at b
 have c:=congrArg List.length b
 simp only [List.length_append] at c
 omega
theorem wgtL_mem {x:Dt} {l:List Dt} (h:x ∈ l):wgt x ≤ wgtL l:=by
 induction l with
 | nil=>cases h
 | cons y r ih =>
  simp only [wgtL]
  rcases List.mem_cons.1 h with rfl | h
  ·omega
  ·have:=ih h;omega
end Go.Proofs.YtkmhmnffbgedgaaDoor
/- Columns that are written entry by entry: their rows in memory. -/
namespace Go.Proofs.YtkmhmnffbgedgaaDoor
set_option linter.unusedVariables false
set_option linter.unusedSimpArgs false
open Go Go.RowKit Go.ChangeShapes
def upd {α:Type} (f:Nat → α) (j:Nat) (v:α):Nat → α:=fun i=>if i = j then v else f i
theorem upd_same {α:Type} (f:Nat → α) (j:Nat) (v:α):upd f j v j = v:=if_pos rfl
theorem upd_ne {α:Type} (f:Nat → α) {i j:Nat} (v:α) (h:i ≠ j):upd f j v i = f i:=if_neg h
def apartV (a b:Value):Prop:=∀ k,a.ownBlock = some k → b.ownBlock ≠ some k
theorem apartV.symm {a b:Value} (h:apartV a b):apartV b a:=fun k hb ha=>h k ha hb
def addC (m:Int) (c:Col) (l:List Ent):Col:=⟨c.id,c.rep ++ l.map Ent.r,c.df ++ l.map Ent.d,c.vals ++ l.filterMap fun e=>if e.d = m then some e.v else none⟩
theorem addC_nil (m:Int) (c:Col):addC m c [] = c:=by simp [addC]
theorem addC_app (m:Int) (c:Col) (a b:List Ent):addC m (addC m c a) b = addC m c (a ++ b):=by simp [addC,List.filterMap_append]
theorem addC_yes {m:Int} {c:Col} {e:Ent} (h:e.d = m):addC m c [e] = ⟨c.id,c.rep ++ [e.r],c.df ++ [e.d],c.vals ++ [e.v]⟩:=by simp [addC,h]
theorem addC_no {m:Int} {c:Col} {e:Ent} (h:¬ e.d = m):addC m c [e] = ⟨c.id,c.rep ++ [e.r],c.df ++ [e.d],c.vals⟩:=by simp [addC,h]
def intC (x:Int):List Value:=[.int .i64 x]
theorem intC_one (x:Int):∀ u ∈ intC x,u.oneCell' = true:=by intro u hu;obtain rfl:=List.mem_singleton.1 hu;rfl
theorem info_intC:(Tryd.prog.info? 3).map (fun i=>(i.zero,i.size,i.bytes)) = some (some (.int .i64 0),1,8):=by kernel_rfl
theorem info_valC:(Tryd.prog.info? 61).map (fun i=>(i.zero,i.size,i.bytes)) = some (some (.agg #[.int .i64 0,.int .i64 0,.string ByteArray.empty]),3,32):=by kernel_rfl
theorem intC_map (l:List Int):l.flatMap intC = l.map fun x=>.int .i64 x:=by
 induction l with
 | nil=>rfl
 | cons x r ih=>rw [List.flatMap_cons,ih];rfl
structure CRows (w:World) (B n:Nat) (P Q D:Nat → Value) (C:Nat → Col):Prop where
 p:∀ j,j < n → w.ownsRow B 3 1 (P j) (C j).rep.length ((C j).rep.flatMap intC)
 q:∀ j,j < n → w.ownsRow B 3 1 (Q j) (C j).df.length ((C j).df.flatMap intC)
 d:∀ j,j < n → w.ownsRow B 61 3 (D j) (C j).vals.length ((C j).vals.flatMap valCells)
 pp:∀ j k,j < n → k < n → j ≠ k → apartV (P j) (P k)
 pq:∀ j k,j < n → k < n → apartV (P j) (Q k)
 qq:∀ j k,j < n → k < n → j ≠ k → apartV (Q j) (Q k)
 dd:∀ j k,j < n → k < n → j ≠ k → apartV (D j) (D k)
theorem own_stay {w w':World} {B n s:Nat} {e:TypeId} {v:Value} {xs:List Value} (h:w.ownsRow B e s v n xs) (hk:∀ b,B ≤ b → b < w.heap.size → v.ownBlock = some b → w'.heap[b]? = w.heap[b]?):w'.ownsRow B e s v n xs:=by
 refine ⟨h.1,?_⟩
 rcases h.2 with h2 | ⟨g,cap,cur,h1,h2,h3,h4⟩
 ·exact .inl h2
 ·exact .inr ⟨g,cap,cur,h1,h2,(hk g h2 (row_lt h3) (by rw [h1];rfl)).trans h3,h4⟩
theorem CRows.keep {w w':World} {B n:Nat} {P Q D:Nat → Value} {C:Nat → Col} (h:CRows w B n P Q D C) (hk:∀ b,B ≤ b → b < w.heap.size → w'.heap[b]? = w.heap[b]?):CRows w' B n P Q D C :=
 ⟨fun j hj=>own_stay (h.p j hj) fun b h1 h2 _=>hk b h1 h2,fun j hj=>own_stay (h.q j hj) fun b h1 h2 _=>hk b h1 h2,fun j hj=>own_stay (h.d j hj) fun b h1 h2 _=>hk b h1 h2,h.pp,h.pq,h.qq,h.dd⟩
theorem CRows.below {w w':World} {B n:Nat} {P Q D:Nat → Value} {C:Nat → Col} (h:CRows w B n P Q D C) (hb:Below w.heap.size w w'):CRows w' B n P Q D C:=h.keep fun b _ hl=>hb.block b hl
theorem own_ne_type {w:World} {B n s B' n' s':Nat} {e e':TypeId} {v v':Value} {xs xs':List Value} (h:w.ownsRow B e s v n xs) (h':w.ownsRow B' e' s' v' n' xs') (he:e ≠ e'):apartV v v':=by
 intro k hk hk'
 rcases h.2 with ⟨rfl,_⟩ | ⟨g,cap,cur,rfl,_,h1,_⟩
 ·simp [Value.ownBlock] at hk
 rcases h'.2 with ⟨rfl,_⟩ | ⟨g',cap',cur',rfl,_,h1',_⟩
 ·simp [Value.ownBlock] at hk'
 simp only [Value.ownBlock,Option.some.injEq] at hk hk'
 subst hk hk'
 rw [h1] at h1'
 simp only [Option.some.injEq,Obj.cells.injEq] at h1'
 exact he h1'.2.1
theorem apart_new {w:World} {B n s:Nat} {e:TypeId} {v v' u:Value} {xs:List Value} {z:Nat} (hu:w.ownsRow B e s u n xs) (ha:apartV v u) (hz:w.heap.size ≤ z) (hv:v'.ownBlock = v.ownBlock ∨ v'.ownBlock = some z):apartV v' u:=by
 intro k hk hk'
 rcases hv with hv | hv
 ·rw [hv] at hk;exact ha k hk hk'
 ·rw [hv] at hk;injection hk with hk;have:=(hu.lt k hk').2;omega
theorem own_far2 {w w':World} {B s n:Nat} {e:TypeId} {v x:Value} {xs:List Value} (h:w.ownsRow B e s v n xs) (hg:w.grownBy w' x.ownBlock) (hne:apartV v x):w'.ownsRow B e s v n xs :=
 own_stay h fun b _ hl hb=>hg.block b hl fun e=>hne b hb e.symm
theorem CRows.addP {w w':World} {B n:Nat} {P Q D:Nat → Value} {C:Nat → Col} (h:CRows w B n P Q D C) {j:Nat} (hj:j < n) {v':Value} {c':Col} (hg:w.grownBy w' (P j).ownBlock)
  (ho:w'.ownsRow B 3 1 v' c'.rep.length (c'.rep.flatMap intC)) (hn:v'.ownBlock = (P j).ownBlock ∨ v'.ownBlock = some w.heap.size) (h1:c'.df = (C j).df) (h2:c'.vals = (C j).vals) :
  CRows w' B n (upd P j v') Q D (upd C j c') where
 p i hi:=by
  by_cases e:i = j
  ·subst e;rw [upd_same,upd_same];exact ho
  ·rw [upd_ne _ _ e,upd_ne _ _ e];exact own_far2 (h.p i hi) hg (h.pp i j hi hj e)
 q i hi:=by
  have:=own_far2 (h.q i hi) hg (h.pq j i hj hi).symm
  by_cases e:i = j
  ·subst e;rw [upd_same,h1];exact this
  ·rw [upd_ne _ _ e];exact this
 d i hi:=by
  have:=own_far2 (h.d i hi) hg (own_ne_type (h.d i hi) (h.p j hj) (by decide))
  by_cases e:i = j
  ·subst e;rw [upd_same,h2];exact this
  ·rw [upd_ne _ _ e];exact this
 pp i k hi hk hne:=by
  by_cases e:i = j
  ·subst e;rw [upd_same,upd_ne _ _ (Ne.symm hne)];exact apart_new (h.p k hk) (h.pp i k hi hk hne) (Nat.le_refl _) hn
  ·rw [upd_ne _ _ e]
   by_cases e2:k = j
   ·subst e2;rw [upd_same];exact (apart_new (h.p i hi) (h.pp k i hk hi (Ne.symm hne)) (Nat.le_refl _) hn).symm
   ·rw [upd_ne _ _ e2];exact h.pp i k hi hk hne
 pq i k hi hk:=by
  by_cases e:i = j
  ·subst e;rw [upd_same];exact apart_new (h.q k hk) (h.pq i k hi hk) (Nat.le_refl _) hn
  ·rw [upd_ne _ _ e];exact h.pq i k hi hk
 qq:=h.qq
 dd:=h.dd
theorem CRows.addQ {w w':World} {B n:Nat} {P Q D:Nat → Value} {C:Nat → Col} (h:CRows w B n P Q D C) {j:Nat} (hj:j < n) {v':Value} {c':Col} (hg:w.grownBy w' (Q j).ownBlock)
  (ho:w'.ownsRow B 3 1 v' c'.df.length (c'.df.flatMap intC)) (hn:v'.ownBlock = (Q j).ownBlock ∨ v'.ownBlock = some w.heap.size) (h1:c'.rep = (C j).rep) (h2:c'.vals = (C j).vals) :
  CRows w' B n P (upd Q j v') D (upd C j c') where
 q i hi:=by
  by_cases e:i = j
  ·subst e;rw [upd_same,upd_same];exact ho
  ·rw [upd_ne _ _ e,upd_ne _ _ e];exact own_far2 (h.q i hi) hg (h.qq i j hi hj e)
 p i hi:=by
  have:=own_far2 (h.p i hi) hg (h.pq i j hi hj)
  by_cases e:i = j
  ·subst e;rw [upd_same,h1];exact this
  ·rw [upd_ne _ _ e];exact this
 d i hi:=by
  have:=own_far2 (h.d i hi) hg (own_ne_type (h.d i hi) (h.q j hj) (by decide))
  by_cases e:i = j
  ·subst e;rw [upd_same,h2];exact this
  ·rw [upd_ne _ _ e];exact this
 qq i k hi hk hne:=by
  by_cases e:i = j
  ·subst e;rw [upd_same,upd_ne _ _ (Ne.symm hne)];exact apart_new (h.q k hk) (h.qq i k hi hk hne) (Nat.le_refl _) hn
  ·rw [upd_ne _ _ e]
   by_cases e2:k = j
   ·subst e2;rw [upd_same];exact (apart_new (h.q i hi) (h.qq k i hk hi (Ne.symm hne)) (Nat.le_refl _) hn).symm
   ·rw [upd_ne _ _ e2];exact h.qq i k hi hk hne
 pq i k hi hk:=by
  by_cases e:k = j
  ·subst e;rw [upd_same];exact (apart_new (h.p i hi) (h.pq i k hi hk).symm (Nat.le_refl _) hn).symm
  ·rw [upd_ne _ _ e];exact h.pq i k hi hk
 pp:=h.pp
 dd:=h.dd
theorem CRows.addD {w w':World} {B n:Nat} {P Q D:Nat → Value} {C:Nat → Col} (h:CRows w B n P Q D C) {j:Nat} (hj:j < n) {v':Value} {c':Col} (hg:w.grownBy w' (D j).ownBlock)
  (ho:w'.ownsRow B 61 3 v' c'.vals.length (c'.vals.flatMap valCells)) (hn:v'.ownBlock = (D j).ownBlock ∨ v'.ownBlock = some w.heap.size) (h1:c'.rep = (C j).rep) (h2:c'.df = (C j).df) :
  CRows w' B n P Q (upd D j v') (upd C j c') where
 d i hi:=by
  by_cases e:i = j
  ·subst e;rw [upd_same,upd_same];exact ho
  ·rw [upd_ne _ _ e,upd_ne _ _ e];exact own_far2 (h.d i hi) hg (h.dd i j hi hj e)
 p i hi:=by
  have:=own_far2 (h.p i hi) hg (own_ne_type (h.p i hi) (h.d j hj) (by decide))
  by_cases e:i = j
  ·subst e;rw [upd_same,h1];exact this
  ·rw [upd_ne _ _ e];exact this
 q i hi:=by
  have:=own_far2 (h.q i hi) hg (own_ne_type (h.q i hi) (h.d j hj) (by decide))
  by_cases e:i = j
  ·subst e;rw [upd_same,h2];exact this
  ·rw [upd_ne _ _ e];exact this
 dd i k hi hk hne:=by
  by_cases e:i = j
  ·subst e;rw [upd_same,upd_ne _ _ (Ne.symm hne)];exact apart_new (h.d k hk) (h.dd i k hi hk hne) (Nat.le_refl _) hn
  ·rw [upd_ne _ _ e]
   by_cases e2:k = j
   ·subst e2;rw [upd_same];exact (apart_new (h.d i hi) (h.dd k i hk hi (Ne.symm hne)) (Nat.le_refl _) hn).symm
   ·rw [upd_ne _ _ e2];exact h.dd i k hi hk hne
 pp:=h.pp
 pq:=h.pq
 qq:=h.qq
def CCells (cs:Array Value) (n:Nat) (ids:Nat → Int) (P Q D:Nat → Value):Prop:=∀ j,j < n → cs[j * 4]? = some (.int .i64 (ids j)) ∧ cs[j * 4 + 1]? = some (P j) ∧ cs[j * 4 + 2]? = some (Q j) ∧ cs[j * 4 + 3]? = some (D j)
theorem set_get {cs:Array Value} {i k:Nat} {v x:Value} (h:cs[k]? = some x) (hne:i ≠ k):(cs.setIfInBounds i v)[k]? = some x:=by rw [Array.getElem?_setIfInBounds_ne hne];exact h
theorem set_at {cs:Array Value} {i:Nat} {v x:Value} (h:cs[i]? = some x):(cs.setIfInBounds i v)[i]? = some v:=by
 have:=(Array.getElem?_eq_some_iff.1 h).1
 rw [Array.getElem?_setIfInBounds_self_of_lt this]
theorem CCells.setP {cs:Array Value} {n:Nat} {ids:Nat → Int} {P Q D:Nat → Value} (h:CCells cs n ids P Q D) {j:Nat} (hj:j < n) (v:Value):CCells (cs.setIfInBounds (j * 4 + 1) v) n ids (upd P j v) Q D:=by
 intro i hi
 obtain ⟨h0,h1,h2,h3⟩:=h i hi
 refine ⟨set_get h0 (by omega),?_,set_get h2 (by omega),set_get h3 (by omega)⟩
 by_cases e:i = j
 ·subst e;rw [upd_same];exact set_at h1
 ·rw [upd_ne _ _ e];exact set_get h1 (by omega)
theorem CCells.setQ {cs:Array Value} {n:Nat} {ids:Nat → Int} {P Q D:Nat → Value} (h:CCells cs n ids P Q D) {j:Nat} (hj:j < n) (v:Value):CCells (cs.setIfInBounds (j * 4 + 2) v) n ids P (upd Q j v) D:=by
 intro i hi
 obtain ⟨h0,h1,h2,h3⟩:=h i hi
 refine ⟨set_get h0 (by omega),set_get h1 (by omega),?_,set_get h3 (by omega)⟩
 by_cases e:i = j
 ·subst e;rw [upd_same];exact set_at h2
 ·rw [upd_ne _ _ e];exact set_get h2 (by omega)
theorem CCells.setD {cs:Array Value} {n:Nat} {ids:Nat → Int} {P Q D:Nat → Value} (h:CCells cs n ids P Q D) {j:Nat} (hj:j < n) (v:Value):CCells (cs.setIfInBounds (j * 4 + 3) v) n ids P Q (upd D j v):=by
 intro i hi
 obtain ⟨h0,h1,h2,h3⟩:=h i hi
 refine ⟨set_get h0 (by omega),set_get h1 (by omega),set_get h2 (by omega),?_⟩
 by_cases e:i = j
 ·subst e;rw [upd_same];exact set_at h3
 ·rw [upd_ne _ _ e];exact set_get h3 (by omega)
structure Fr (B0 B g:Nat) (w w':World):Prop where
 below:Below B0 w w'
 lo:∀ b,b < B → b ≠ g → w'.heap[b]? = w.heap[b]?
 tag:∀ (b:Nat) (cs:Array Value) (T:TypeId) (fz:Nat × Nat),T ≠ 3 → T ≠ 61 → b ≠ g → w.heap[b]? = some (.cells cs T fz) → w'.heap[b]? = some (.cells cs T fz)
theorem Fr.refl (B0 B g:Nat) (w:World):Fr B0 B g w w:=⟨Below.refl _ _,fun _ _ _=>rfl,fun _ _ _ _ _ _ _ h=>h⟩
theorem Fr.trans {B0 B g:Nat} {a b c:World} (h:Fr B0 B g a b) (k:Fr B0 B g b c):Fr B0 B g a c :=
 ⟨h.below.trans k.below,fun i h1 h2=>(k.lo i h1 h2).trans (h.lo i h1 h2),fun i cs T fz h1 h2 h3 hg=>k.tag i cs T fz h1 h2 h3 (h.tag i cs T fz h1 h2 h3 hg)⟩
theorem Fr.of_below {B0 B g:Nat} {w w':World} (h:Below w.heap.size w w') (h0:B0 ≤ B) (hB:B ≤ w.heap.size):Fr B0 B g w w' :=
 ⟨h.mono (by omega),fun b hb _=>h.block b (by omega),fun b cs T fz _ _ _ hg=>row_keep h hg⟩
theorem Fr.size {B0 B g:Nat} {w w':World} (h:Fr B0 B g w w'):w.heap.size ≤ w'.heap.size:=h.below.size
theorem Fr.grown {B0 B g s n:Nat} {w w':World} {e:TypeId} {v:Value} {xs:List Value} (ho:w.ownsRow B e s v n xs) (he:e = 3 ∨ e = 61) (hg:w.grownBy w' v.ownBlock) (h0:B0 ≤ B) (hB:B ≤ w.heap.size):Fr B0 B g w w':=by
 refine ⟨(Below.refl B0 w).grown hg (by omega) (fun k hk=>Nat.le_trans h0 (ho.lt k hk).1),fun b hb _=>hg.block b (by omega) (fun e=>by have:=(ho.lt b e.symm).1;omega),fun b cs T fz h1 h2 _ hb=>?_⟩
 refine (hg.block b (row_lt hb) (fun e'=>?_)).trans hb
 rcases ho.2 with ⟨rfl,_⟩ | ⟨q,cap,cur,rfl,_,hq,_⟩
 ·simp [Value.ownBlock] at e'
 ·simp only [Value.ownBlock,Option.some.injEq] at e'
  subst e'
  rw [hb] at hq
  simp only [Option.some.injEq,Obj.cells.injEq] at hq
  obtain ⟨_,rfl,_⟩:=hq
  rcases he with he | he
  ·exact h1 he
  ·exact h2 he
theorem Fr.store {B0 B g:Nat} (w:World) (i:Nat) (v:Value) (h0:B0 ≤ g):Fr B0 B g w (w.setCell ⟨g,i,none⟩ v) :=
 ⟨(Below.refl B0 w).setCell (p:=⟨g,i,none⟩) h0 v,fun b _ hne=>heap_setCell_other w ⟨g,i,none⟩ b v hne,fun b cs T fz _ _ hne hg=>(heap_setCell_other w ⟨g,i,none⟩ b v hne).trans hg⟩
structure Wr (B0 B W g cap n:Nat) (mv:Value) (mx ids:Nat → Int) (w:World) (C:Nat → Col):Prop where
 hW:W < B
 hg:g < B
 hgW:g ≠ W
 hB:B ≤ w.heap.size
 h0:B0 ≤ B
 h0g:B0 ≤ g
 nc:n ≤ cap
 n1:n ≤ 1000000
 wr:w.heap[W]? = some (.cells #[.slice (some ⟨g,0,none⟩) n cap,mv] 87 (0,0))
 mx:∃ (gm mc:Nat) (cur:Array Value),mv = .slice (some ⟨gm,0,none⟩) n mc ∧ gm < B ∧ gm ≠ g ∧ w.heap[gm]? = some (.cells cur 3 (0,0)) ∧ ∀ j,j < n → cur[j]? = some (.int .i64 (mx j))
 st:∃ (cs:Array Value) (P Q D:Nat → Value),w.heap[g]? = some (.cells cs 32 (0,0)) ∧ CCells cs n ids P Q D ∧ CRows w B n P Q D C
 len:∀ j,j < n → (C j).df.length = (C j).rep.length ∧ (C j).vals.length ≤ (C j).rep.length
theorem Wr.keep {B0 B W g cap n:Nat} {mv:Value} {mx ids:Nat → Int} {w w':World} {C:Nat → Col} (h:Wr B0 B W g cap n mv mx ids w C) (hb:Below w.heap.size w w'):Wr B0 B W g cap n mv mx ids w' C:=by
 obtain ⟨gm,mc,cur,h1,h2,h3,h4,h5⟩:=h.mx
 obtain ⟨cs,P,Q,D,k1,k2,k3⟩:=h.st
 exact ⟨h.hW,h.hg,h.hgW,Nat.le_trans h.hB hb.size,h.h0,h.h0g,h.nc,h.n1,row_keep hb h.wr,⟨gm,mc,cur,h1,h2,h3,row_keep hb h4,h5⟩,⟨cs,P,Q,D,row_keep hb k1,k2,k3.below hb⟩,h.len⟩
end Go.Proofs.YtkmhmnffbgedgaaDoor
