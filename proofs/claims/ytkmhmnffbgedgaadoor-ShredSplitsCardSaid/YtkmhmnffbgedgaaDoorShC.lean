/- Plain: the document's columns of right records are the program's. -/
import Derived.Test.YtkmhmnffbgedgaaDoorDc2
import Derived.Test.YtkmhmnffbgedgaaDoorSameN
namespace Go.Proofs.YtkmhmnffbgedgaaDoor
set_option linter.unusedVariables false
set_option linter.unusedSimpArgs false
open Go Go.RowKit Go.ChangeShapes
theorem addD_map (m:Int) (c:Col) (E:List Ent):addD c (E.map (entD m)) = addC m c E:=by
 unfold addD addC
 have h1:(E.map (entD m)).map EntD.r = E.map Ent.r:=by rw [List.map_map];rfl
 have h2:(E.map (entD m)).map EntD.d = E.map Ent.d:=by rw [List.map_map];rfl
 have h3:(E.map (entD m)).filterMap EntD.v = E.filterMap fun e=>if e.d = m then some e.v else none:=by rw [List.filterMap_map];rfl
 rw [h1,h2,h3]
theorem chs_in:(∀ n,∀ c ∈ chs n,∀ y ∈ c,y ∈ nodes n) ∧ ∀ l,∀ c ∈ chsL l,∀ y ∈ c,y ∈ nodesL l:=by
 refine tree2 (fun n h c hc y hy=>?_) (fun c hc=>by simp [chsL] at hc) (fun x r h1 h2 c hc y hy=>?_)
 ·rw [chs_eq] at hc
  rw [nodes_eq]
  split at hc
  ·obtain ⟨q,hq,rfl⟩:=List.mem_map.1 hc
   rcases List.mem_cons.1 hy with rfl | hy
   ·exact List.mem_cons_self ..
   ·exact List.mem_cons_of_mem _ (h q hq y hy)
  ·rw [List.mem_singleton] at hc
   subst hc
   rw [List.mem_singleton] at hy
   subst hy
   exact List.mem_cons_self ..
 ·simp only [chsL,nodesL] at hc ⊢
  rcases List.mem_append.1 hc with hc | hc
  ·exact List.mem_append_left _ (h1 c hc y hy)
  ·exact List.mem_append_right _ (h2 c hc y hy)
theorem findD_way {n:Nd} {F:List Pl} (hF:F.map Pl.n = nodes n) (hn:((nodesL n.sub).map Nd.id).Nodup) (h0:∀ y ∈ nodesL n.sub,n.id ≠ y.id) {y:Nd} (hy:y ∈ nodesL n.sub):∃ p,findD F y.id = some p ∧ p.n = y:=by
 have hf:(findD F y.id).map Pl.n = some y:=by
  unfold findD
  have h1:(F.map Pl.n).find? (fun x=>decide (x.id = y.id)) = (F.find? (fun p=>decide (p.n.id = y.id))).map Pl.n:=by rw [List.find?_map];rfl
  rw [← h1,hF,nodes_eq,List.find?_cons,decide_eq_false (h0 y hy)]
  exact nodup_find _ hn hy
 obtain ⟨p,hp,hpy⟩:=Option.map_eq_some_iff.1 hf
 exact ⟨p,hp,hpy⟩
def docCol (n:Nd) (q:List Nd) (c:Col):List Dt → Col
 | []=>c
 | d :: l=>docCol n q (addD c (docE (n :: q) d 0 0 0 false)) l
theorem docCol_eq {n:Nd} {q:List Nd} {m:Int} {j:Nat}:∀ (l:List Dt) (c:Col),(∀ d ∈ l,docE (n :: q) d 0 0 0 false = (shE n d 0 0 0 0 false j).map (entD m)) → docCol n q c l = addC m c (shAll n l j)
 | [],c,_=>by simp [docCol,shAll,addC_nil]
 | d :: l,c,h=>by
  rw [docCol,h d (List.mem_cons_self ..),addD_map,docCol_eq l _ fun y hy=>h y (List.mem_cons_of_mem _ hy),addC_app]
  rfl
theorem doc_col {n:Nd} (hv:validE n = 0) (hnd:((nodes n).map Nd.id).Nodup) {l:List Dt} (hd:∀ d ∈ l,datE n false d = 0) {i:Nat} {q:List Nd} (hq:(chsL n.sub)[i]? = some q) :
  ∃ f,(leavesN n)[i]? = some f ∧ f.path = idsOf q ∧ (∀ d ∈ l,docE (n :: q) d 0 0 0 false = (shE n d 0 0 0 0 false i).map (entD (lvMd n i))) ∧ docCol n q ⟨f.id,[],[],[]⟩ l = shCol n l i:=by
 obtain ⟨hk,_,hr⟩:=valid_root hv
 have hl:(leavesN n)[i]? = some (lvfOf 0 0 [] q):=by rw [leaves_chs,List.getElem?_map,hq];rfl
 have hmd:lvMd n i = opts q:=by
  unfold lvMd;rw [hl]
  show (0:Int) + opts q = opts q
  omega
 have hid:lvId n i = (lvfOf 0 0 [] q).id:=by unfold lvId;rw [hl];rfl
 have hc:(chs n)[i]? = some (n :: q):=by rw [chs_eq,if_pos hk,List.getElem?_map,hq];rfl
 have hm:(0:Int) + opts (n :: q) - own1 n false = opts q:=by
  have:opts (n :: q) = opts q:=by unfold opts;rw [List.filter_cons,if_neg (by simp [hr])]
  rw [this];simp [own1]
 have he:∀ d ∈ l,docE (n :: q) d 0 0 0 false = (shE n d 0 0 0 0 false i).map (entD (lvMd n i)):=by
  intro d h
  have h1:=doc_main d n 0 0 0 0 false (valid_shapes hv) hnd (hd d h) i _ hc
  rw [hm,Nat.zero_add] at h1
  rw [hmd]
  exact h1
 refine ⟨_,hl,by simp [lvfOf],he,?_⟩
 rw [docCol_eq l _ he]
 unfold shCol
 rw [hid]
end Go.Proofs.YtkmhmnffbgedgaaDoor
/- Plain: the way to a leaf, and how far the document's column of it has come. -/
namespace Go.Proofs.YtkmhmnffbgedgaaDoor
set_option linter.unusedVariables false
set_option linter.unusedSimpArgs false
open Go Go.RowKit Go.ChangeShapes
theorem chs_short:(∀ n,∀ c ∈ chs n,c.length ≤ size n) ∧ ∀ l,∀ c ∈ chsL l,c.length ≤ sizeL l:=by
 refine tree2 (fun n h c hc=>?_) (fun c hc=>by simp [chsL] at hc) (fun x r h1 h2 c hc=>?_)
 ·rw [chs_eq] at hc
  rw [size_eq]
  split at hc
  ·obtain ⟨q,hq,rfl⟩:=List.mem_map.1 hc
   have:=h q hq
   simp only [List.length_cons];omega
  ·rw [List.mem_singleton] at hc;subst hc;simp only [List.length_singleton];omega
 ·simp only [chsL,sizeL] at hc ⊢
  rcases List.mem_append.1 hc with hc | hc
  ·have:=h1 c hc;omega
  ·have:=h2 c hc;omega
theorem valid_id0 {n:Nd} (h:validE n = 0):n.id = 0 ∧ ∀ y ∈ nodesL n.sub,n.id ≠ y.id:=by
 obtain ⟨_,h2,_,h4⟩:=valid_facts h
 have hid:n.id = 0:=by
  unfold rootOk at h2
  simp only [Bool.and_eq_true,decide_eq_true_eq] at h2
  exact h2.1.1.1.1
 exact ⟨hid,fun y hy=>by have:=ids_one _ _ h4 y hy;omega⟩
theorem valid_nodup {n:Nd} (h:validE n = 0):((nodes n).map Nd.id).Nodup:=by
 rw [nodes_eq,List.map_cons,List.nodup_cons]
 refine ⟨fun hm=>?_,(ids_nodup _ _ (valid_facts h).2.2.2).1⟩
 obtain ⟨y,hy,e⟩:=List.mem_map.1 hm
 exact (valid_id0 h).2 y hy e.symm
theorem valid_flat {n:Nd} (h:validE n = 0):(flatF [] n 1 (-1)).map Pl.n = nodes n:=by
 have h1:=good_small h
 rw [flat_small.1 n [] 1 (-1) (by simp;omega) (by omega)]
 exact plc_nodes.1 n 0 1 (-1)
structure Way (n:Nd) (l:List Dt) (k:Nat) (f:Lvf) (q:List Nd):Prop where
 path:f.path = idsOf q
 ch:(n :: q) ∈ chs n
 short:q.length ≤ 40
 find:∀ (j:Nat) y,q[j]? = some y → ∃ p,findD (flatF [] n 1 (-1)) y.id = some p ∧ p.n = y
 doc:∀ d ∈ l,docE (n :: q) d 0 0 0 false = (shE n d 0 0 0 0 false k).map (entD (lvMd n k))
 id:lvId n k = f.id
def colAt (n:Nd) (l:List Dt) (k q:Nat):Col:=addC (lvMd n k) ⟨lvId n k,[],[],[]⟩ (shAll n (l.take q) k)
theorem colAt_all (n:Nd) (l:List Dt) (k q:Nat) (h:l.length = q):colAt n l k q = shCol n l k:=by
 unfold colAt shCol;rw [List.take_of_length_le (Nat.le_of_eq h)]
theorem colAt_even (n:Nd) (l:List Dt) (k q:Nat):even (colAt n l k q):=by
 unfold colAt even addC
 refine ⟨by simp only [List.nil_append,List.length_map],?_⟩
 simp only [List.nil_append,List.length_map]
 exact List.length_filterMap_le _ _
theorem colAt_len (n:Nd) (l:List Dt) (k q:Nat):(colAt n l k q).rep.length ≤ wgtL l:=by
 unfold colAt addC
 simp only [List.nil_append,List.length_map]
 have h2:=shAll_len n l k
 have h3:(shAll n (l.take q) k).length ≤ (shAll n l k).length:=by
  have:l = l.take q ++ l.drop q:=(List.take_append_drop q l).symm
  have e:shAll n l k = shAll n (l.take q) k ++ shAll n (l.drop q) k:=by unfold shAll;rw [← List.flatMap_append,List.take_append_drop]
  rw [e,List.length_append];omega
 omega
theorem shCol_len (n:Nd) (l:List Dt) (k:Nat):(shCol n l k).rep.length ≤ wgtL l ∧ (shCol n l k).df.length ≤ wgtL l ∧ (shCol n l k).vals.length ≤ wgtL l:=by
 have h:=colAt_len n l k l.length
 have h1:=colAt_even n l k l.length
 rw [colAt_all n l k _ rfl] at h h1
 exact ⟨h,by rw [h1.1];exact h,Nat.le_trans h1.2 h⟩
theorem shCols_len (n:Nd) (l:List Dt):(shCols n l).length = (leavesN n).length:=by unfold shCols;rw [List.length_map,List.length_range]
end Go.Proofs.YtkmhmnffbgedgaaDoor
