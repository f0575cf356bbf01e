/- Plain: the way to a leaf, and how far the document's column of it has come. -/
import Derived.Test.YtkmhmnffbgedgaaGreatDoorShC
namespace Go.Proofs.YtkmhmnffbgedgaaGreatDoor
set_option linter.unusedVariables false
set_option linter.unusedSimpArgs false
open Go Go.RowKit Go.ChangeShapes
theorem chs_short:(∀ n,∀ c ∈ chs n,c.length ≤ size n) ∧ ∀ l,∀ c ∈ chsL l,c.length ≤ sizeL l:=by
 refine tree2 (fun n h c hc=>?_) (fun c hc=>by simp [chsL] at hc) (fun x r h1 h2 c hc=>?_)
 ·rw [chs_eq] at hc
  rw [size_eq]
  split at hc
  ·obtain ⟨q,hq,rfl⟩:=List.mem_map.1 hc
   have:=h q hq
   simp only [List.length_cons];omega
  ·rw [List.mem_singleton] at hc;subst hc;simp only [List.length_singleton];omega
 ·simp only [chsL,sizeL] at hc ⊢
  rcases List.mem_append.1 hc with hc | hc
  ·have:=h1 c hc;omega
  ·have:=h2 c hc;omega
theorem valid_id0 {n:Nd} (h:validE n = 0):n.id = 0 ∧ ∀ y ∈ nodesL n.sub,n.id ≠ y.id:=by
 obtain ⟨_,h2,_,h4⟩:=valid_facts h
 have hid:n.id = 0:=by
  unfold rootOk at h2
  simp only [Bool.and_eq_true,decide_eq_true_eq] at h2
  exact h2.1.1.1.1
 exact ⟨hid,fun y hy=>by have:=ids_one _ _ h4 y hy;omega⟩
theorem valid_nodup {n:Nd} (h:validE n = 0):((nodes n).map Nd.id).Nodup:=by
 rw [nodes_eq,List.map_cons,List.nodup_cons]
 refine ⟨fun hm=>?_,(ids_nodup _ _ (valid_facts h).2.2.2).1⟩
 obtain ⟨y,hy,e⟩:=List.mem_map.1 hm
 exact (valid_id0 h).2 y hy e.symm
theorem valid_flat {n:Nd} (h:validE n = 0):(flatF [] n 1 (-1)).map Pl.n = nodes n:=by
 have h1:=good_small h
 rw [flat_small.1 n [] 1 (-1) (by simp;omega) (by omega)]
 exact plc_nodes.1 n 0 1 (-1)
structure Way (n:Nd) (l:List Dt) (k:Nat) (f:Lvf) (q:List Nd):Prop where
 path:f.path = idsOf q
 ch:(n :: q) ∈ chs n
 short:q.length ≤ 40
 find:∀ (j:Nat) y,q[j]? = some y → ∃ p,findD (flatF [] n 1 (-1)) y.id = some p ∧ p.n = y
 doc:∀ d ∈ l,docE (n :: q) d 0 0 0 false = (shE n d 0 0 0 0 false k).map (entD (lvMd n k))
 id:lvId n k = f.id
theorem way_any {n:Nd} {l:List Dt} (hv:validE n = 0) (hd:∀ d ∈ l,datE n false d = 0) {k:Nat} {f:Lvf} (hf:(leavesN n)[k]? = some f):∃ q,Way n l k f q:=by
 have h0:=hf
 rw [leaves_chs,List.getElem?_map] at h0
 obtain ⟨q,hq,rfl⟩:=Option.map_eq_some_iff.1 h0
 obtain ⟨f',h1,h2,h3,_⟩:=doc_col hv (valid_nodup hv) hd hq
 rw [hf] at h1
 injection h1 with h1
 subst h1
 have hqm:=List.mem_of_getElem? hq
 have hs:=chs_short.2 n.sub q hqm
 have hsz:=(good_small hv).1
 rw [size_eq] at hsz
 refine ⟨q,h2,?_,by omega,fun j y hy=>findD_way (valid_flat hv) (ids_nodup _ _ (valid_facts hv).2.2.2).1 (valid_id0 hv).2 (chs_in.2 n.sub q hqm y (List.mem_of_getElem? hy)),h3,?_⟩
 ·rw [chs_eq,if_pos (valid_root hv).1]
  exact List.mem_map.2 ⟨q,hqm,rfl⟩
 ·unfold lvId;rw [hf];rfl
def colAt (n:Nd) (l:List Dt) (k q:Nat):Col:=addC (lvMd n k) ⟨lvId n k,[],[],[]⟩ (shAll n (l.take q) k)
theorem colAt_zero (n:Nd) (l:List Dt) (k:Nat):colAt n l k 0 = ⟨lvId n k,[],[],[]⟩:=by
 unfold colAt;rw [List.take_zero];exact addC_nil _ _
theorem colAt_all (n:Nd) (l:List Dt) (k q:Nat) (h:l.length = q):colAt n l k q = shCol n l k:=by
 unfold colAt shCol;rw [List.take_of_length_le (Nat.le_of_eq h)]
theorem colAt_up {n:Nd} {l:List Dt} {k q:Nat} {f:Lvf} {way:List Nd} (hw:Way n l k f way) {x:Dt} (hx:l[q]? = some x) :
  colAt n l k (q + 1) = addD (colAt n l k q) (docE (n :: way) x 0 0 0 false) ∧ (colAt n l k q).rep.length + (docE (n :: way) x 0 0 0 false).length ≤ wgtL l:=by
 have h1:=shAll_up n hx k
 have h2:=shAll_len n l k
 have h3:=hw.doc x (List.mem_of_getElem? hx)
 constructor
 ·unfold colAt
  rw [h3,addD_map,addC_app,h1.1]
 ·rw [h3]
  unfold colAt addC
  simp only [List.nil_append,List.length_map]
  omega
theorem colAt_even (n:Nd) (l:List Dt) (k q:Nat):even (colAt n l k q):=by
 unfold colAt even addC
 refine ⟨by simp only [List.nil_append,List.length_map],?_⟩
 simp only [List.nil_append,List.length_map]
 exact List.length_filterMap_le _ _
theorem colAt_len (n:Nd) (l:List Dt) (k q:Nat):(colAt n l k q).rep.length ≤ wgtL l:=by
 unfold colAt addC
 simp only [List.nil_append,List.length_map]
 have h2:=shAll_len n l k
 have h3:(shAll n (l.take q) k).length ≤ (shAll n l k).length:=by
  have:l = l.take q ++ l.drop q:=(List.take_append_drop q l).symm
  have e:shAll n l k = shAll n (l.take q) k ++ shAll n (l.drop q) k:=by unfold shAll;rw [← List.flatMap_append,List.take_append_drop]
  rw [e,List.length_append];omega
 omega
theorem shCol_len (n:Nd) (l:List Dt) (k:Nat):(shCol n l k).rep.length ≤ wgtL l ∧ (shCol n l k).df.length ≤ wgtL l ∧ (shCol n l k).vals.length ≤ wgtL l:=by
 have h:=colAt_len n l k l.length
 have h1:=colAt_even n l k l.length
 rw [colAt_all n l k _ rfl] at h h1
 exact ⟨h,by rw [h1.1];exact h,Nat.le_trans h1.2 h⟩
theorem shCols_up {n:Nd} {l:List Dt} {k:Nat} (h:k < (leavesN n).length):(shCols n l).take (k + 1) = (shCols n l).take k ++ [shCol n l k]:=by
 unfold shCols
 rw [List.take_add_one,List.getElem?_map,List.getElem?_range h]
 rfl
theorem shCols_len (n:Nd) (l:List Dt):(shCols n l).length = (leavesN n).length:=by unfold shCols;rw [List.length_map,List.length_range]
end Go.Proofs.YtkmhmnffbgedgaaGreatDoor
